/-
  slices.Sorted(maps.Keys(m)) of this translation: what the call does (the library's contracts, laid for these numbers).
-/
import Derived.Test.YtmcnemjnkiofdaaGreatDoorSh
import Derived.Test.YtmcnemjnkiofdaaGreatDoorRh
import Derived.KernelRfl
namespace Go.Proofs.YtmcnemjnkiofdaaGreatDoor
set_option linter.all false
open Go.RT Go.RowKit Go.Maps Go.Sort Go.Shelf
open Go.Proofs (encStr)

theorem sortsA (k : Nat) : AnyZ.SortsIn Tryz.prog Tryz.sortedA_ren Fence.wide k :=
  ⟨fun blk off cap ss W hH hblk hsz => callsIn_wide.2 (AnyM.slices_Sort_string Tryz.sortA blk off cap ss W hH hblk hsz),
   fun p cap W => callsIn_wide.2 (AnyM.slices_Sort_string_none Tryz.sortA p cap W)⟩

theorem sortedAt : SortedAt Tryz.prog 72 88 107 9 := by
  intro w b0 b n D0 R hc hown hmax hbytes
  have hseq : SeqGives Fence.wide 2 Tryz.prog 88 #[.pointer (some ⟨b0, 0, none⟩)] encStr (fun ss => ss.Perm (strKeys D0)) (Maps.size D0) w :=
    AnyZ.keys_gives (ρ := Tryz.keysA_ren) { Tryz.keysA with } Fence.wide _ trivial rfl (by omega) b0 b n D0 _ (by
      have := (Array.getElem?_eq_some_iff.1 hc).1
      omega) (by simp [World.cell?, hc]) hown
  have cS := AnyZ.sorted_in Tryz.sortedA Fence.wide 5 trivial trivial trivial trivial rfl (by omega) (sortsA _) (enters_of Tryz.func87 (by kernel_rfl) rfl) 88 #[.pointer (some ⟨b0, 0, none⟩)] trivial (enters_of Tryz.func88 (by kernel_rfl) rfl) _ _ hmax hbytes _ hseq
  change CallsIn _ _ Tryz.prog 72 _ _ _ at cS
  refine (callsIn_wide.1 cS).mono ?_
  rintro e2 w2 ⟨v, ss, rfl, hS, hrow, -, hb⟩
  exact ⟨v, ss, rfl, hS, hrow, hb⟩
end Go.Proofs.YtmcnemjnkiofdaaGreatDoor
