import Derived.Test.YteagcbkkonabbaaGreatDoorTy
import Derived.Test.YteagcbkkonabbaaGreatDoorRl
import Derived.Test.YteagcbkkonabbaaGreatDoorRm
import Derived.Test.YteagcbkkonabbaaGreatDoorRn
import Derived.KernelRfl
namespace Go.Proofs.YteagcbkkonabbaaGreatDoor
set_option linter.all false
open Go.RT Go.RowKit Go.Maps Go.Sort Go.Shelf
open Go.Proofs (encStr)
theorem atoiAt : AtoiAt Tryz.prog 32 :=
  ⟨entersOf Tryz.func32 (by kernel_rfl) (by kernel_rfl), fun s v w h1 h2 => (Any.strconv_Atoi_ok Tryz.atoiL s h1 v h2 w).mono fun e w' hh => ⟨hh.1, hh.2.elim .inl fun ⟨t, h⟩ => .inr ⟨_, t, h⟩⟩⟩
theorem sortAt : SortAt Tryz.prog 138 :=
  ⟨entersOf Tryz.func138 (by kernel_rfl) (by kernel_rfl), fun blk cap ss w h1 h2 h3 => AnyM.slices_Sort_string Tryz.sortA blk 0 cap ss w h1 h2 h3, fun p cap w => AnyM.slices_Sort_string_none Tryz.sortA p cap w⟩
theorem revSAt : RevSAt Tryz.prog 144 :=
  ⟨entersOf Tryz.func144 (by kernel_rfl) (by kernel_rfl), fun blk cap ss w h1 h2 => AnyE.slices_Reverse Tryz.revS encStr (fun _ => rfl) blk 0 cap ss w h1 h2, fun p cap w => AnyE.slices_Reverse_empty Tryz.revS p cap w⟩
theorem rvAt : RevAt Tryz.prog 111 :=
  ⟨entersOf Tryz.func111 (by kernel_rfl) (by kernel_rfl), fun blk cap zs w h1 h2 => AnyE.slices_Reverse Tryz.revB (Value.int .u8) (fun _ => rfl) blk 0 cap zs w h1 h2⟩
theorem compAt : CompAt Tryz.prog 139 :=
  ⟨entersOf Tryz.func139 (by kernel_rfl) (by kernel_rfl), fun blk cap ss w h1 h2 h3 => Any.slices_Compact_string Tryz.compL blk 0 cap ss w h1 h2 h3, fun p cap w => Any.slices_Compact_string_empty Tryz.compL p cap w⟩
theorem maxLen_at {w : World} {G : Ghost} (hP : Pins E w G) : ∃ m, w.cell? ⟨4, 0, none⟩ = some (.int .i64 m) := by
  obtain ⟨cs, t, m, h1, n, h2⟩ := (hP 4 _ rfl).1
  exact ⟨n, by simp [World.cell?, h1, h2]⟩
theorem splitAt : SplitAt E Tryz.prog 136 9 :=
  ⟨entersOf Tryz.func136 (by kernel_rfl) (by kernel_rfl), fun s sep w G hP h1 h2 => by
    obtain ⟨m, hm⟩ := maxLen_at hP
    exact Any.strings_Split Tryz.splitL (by kernel_rfl) s sep m w h1 hm h2,
   fun s sep h => Lib.splitB_all sep h 0 _ s rfl, fun s sep h => Lib.countB_le sep h s.size s (Nat.le_refl _)⟩
theorem xtra : Builder.Extra Tryz.prog Tryz.joinL_ren := {
  sizeBuilder := by kernel_rfl
  liesBuilder := by kernel_rfl
  t5 := Tryz.underlying5
  a5 := Tryz.isAgg5
  z5 := Tryz.sizeOf5
  v5 := Tryz.zeroValue5
  infoByte := by kernel_rfl
  cellsByte := by kernel_rfl
  sizeByte := by kernel_rfl
  neB5 := by decide }
theorem joinAt : JoinAt Tryz.prog 59 :=
  ⟨entersOf Tryz.func59 (by kernel_rfl) (by kernel_rfl), fun bk o c xs sep w h1 h2 h3 h4 h5 => Any.strings_Join Tryz.joinL xtra bk o c xs sep w h1 h2 h3 h4 h5, fun a c sep w => Any.strings_Join_none Tryz.joinL xtra a c sep w⟩
theorem libAt : LibAt Tryz.prog 77 :=
  ⟨entersOf Tryz.func77 (by kernel_rfl) (by kernel_rfl), fun s c w h => Any.strings_LastIndexByte Tryz.libL s c h w⟩
theorem cutAt : CutAt E Tryz.prog 100 :=
  ⟨entersOf Tryz.func100 (by kernel_rfl) (by kernel_rfl), fun s sep w G hP h => by
    obtain ⟨m, hm⟩ := maxLen_at hP
    exact Any.strings_Cut Tryz.cutL s sep m w h hm⟩
theorem cloneAt : CloneAt Tryz.prog 22 9 :=
  ⟨entersOf Tryz.func22 (by kernel_rfl) (by kernel_rfl), fun b off n c zs w h1 h2 h3 => Any.slices_Clone_string Tryz.cloneL b off n c zs w h1 h2 h3, fun a c w => Any.slices_Clone_string_zero Tryz.cloneL a c w, fun n c w => Any.slices_Clone_string_nil Tryz.cloneL n c w⟩
end Go.Proofs.YteagcbkkonabbaaGreatDoor
