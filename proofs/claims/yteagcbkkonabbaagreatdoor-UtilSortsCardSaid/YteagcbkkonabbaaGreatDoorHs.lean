/-
  The library's contracts of this translation (numbers of this seat).
-/
import Derived.Test.YteagcbkkonabbaaGreatDoorTy
import Derived.Test.YteagcbkkonabbaaGreatDoorRl
import Derived.Test.YteagcbkkonabbaaGreatDoorRm
import Derived.KernelRfl
namespace Go.Proofs.YteagcbkkonabbaaGreatDoor
set_option linter.all false
open Go.RT Go.RowKit Go.Maps Go.Sort Go.Shelf
open Go.Proofs (encStr)

theorem atoiAt : AtoiAt Tryz.prog 32 :=
  ⟨entersOf Tryz.func32 (by kernel_rfl) (by kernel_rfl), fun s v w h1 h2 => (Any.strconv_Atoi_ok Tryz.atoiL s h1 v h2 w).mono fun e w' hh => ⟨hh.1, hh.2.elim .inl fun ⟨t, h⟩ => .inr ⟨_, t, h⟩⟩⟩
theorem sortAt : SortAt Tryz.prog 138 :=
  ⟨entersOf Tryz.func138 (by kernel_rfl) (by kernel_rfl), fun blk cap ss w h1 h2 h3 => AnyM.slices_Sort_string Tryz.sortA blk 0 cap ss w h1 h2 h3, fun p cap w => AnyM.slices_Sort_string_none Tryz.sortA p cap w⟩
theorem revSAt : RevSAt Tryz.prog 144 :=
  ⟨entersOf Tryz.func144 (by kernel_rfl) (by kernel_rfl), fun blk cap ss w h1 h2 => AnyE.slices_Reverse Tryz.revS encStr (fun _ => rfl) blk 0 cap ss w h1 h2, fun p cap w => AnyE.slices_Reverse_empty Tryz.revS p cap w⟩
theorem rvAt : RevAt Tryz.prog 111 :=
  ⟨entersOf Tryz.func111 (by kernel_rfl) (by kernel_rfl), fun blk cap zs w h1 h2 => AnyE.slices_Reverse Tryz.revB (Value.int .u8) (fun _ => rfl) blk 0 cap zs w h1 h2⟩
theorem compAt : CompAt Tryz.prog 139 :=
  ⟨entersOf Tryz.func139 (by kernel_rfl) (by kernel_rfl), fun blk cap ss w h1 h2 h3 => Any.slices_Compact_string Tryz.compL blk 0 cap ss w h1 h2 h3, fun p cap w => Any.slices_Compact_string_empty Tryz.compL p cap w⟩
theorem maxLen_at {w : World} {G : Ghost} (hP : Pins E w G) : ∃ m, w.cell? ⟨4, 0, none⟩ = some (.int .i64 m) := by
  obtain ⟨cs, t, m, h1, n, h2⟩ := (hP 4 _ rfl).1
  exact ⟨n, by simp [World.cell?, h1, h2]⟩
theorem splitAt : SplitAt E Tryz.prog 136 9 :=
  ⟨entersOf Tryz.func136 (by kernel_rfl) (by kernel_rfl), fun s sep w G hP h1 h2 => by
    obtain ⟨m, hm⟩ := maxLen_at hP
    exact Any.strings_Split Tryz.splitL (by kernel_rfl) s sep m w h1 hm h2,
   fun s sep h => Lib.splitB_all sep h 0 _ s rfl, fun s sep h => Lib.countB_le sep h s.size s (Nat.le_refl _)⟩

end Go.Proofs.YteagcbkkonabbaaGreatDoor
