/-
  slices.Sorted(maps.Keys(m)) of this translation: what the two calls do (the library's contracts, laid for these numbers).
-/
import Derived.Test.YtboofbgcdhjhnaaShelf
import Derived.Test.YtboofbgcdhjhnaaAl22
import Derived.Test.YtboofbgcdhjhnaaTypes
namespace Go.Proofs.Ytboofbgcdhjhnaa
set_option linter.unusedVariables false
open Go.AL Go.RowKit Go.Maps Go.Sort Go.Shelf

theorem sortsA (k : Nat) : AnyZ.SortsIn Try.prog Try.sortedA_ren Fence.wide k :=
  ⟨fun blk off cap ss W hH hblk hsz => callsIn_wide.2 (AnyM.slices_Sort_string Try.sortA blk off cap ss W hH hblk hsz),
   fun p cap W => callsIn_wide.2 (AnyM.slices_Sort_string_none Try.sortA p cap W)⟩

theorem sortedKeys : SortedKeys Try.prog 39 38 9 := by
  intro w b n D0 R hown hmax hbytes
  have hbl := hown.lt
  have hseq : SeqGives Fence.wide 2 Try.prog 50 #[.pointer (some ⟨w.heap.size, 0, none⟩)] encStr (fun ss => ss.Perm (strKeys D0)) (Maps.size D0) (w.alloc (.cells #[.map (some b)] 61)) :=
    AnyZ.keys_gives (ρ := Try.keysA_ren) { Try.keysA with } Fence.wide _ trivial rfl (by omega) w.heap.size b n D0 _ (by simp) (by simp) (by
      obtain ⟨es, clock, hb, Ft, hs, hD⟩ := hown
      exact ⟨es, clock, (Below.heap_alloc _ _ b hbl).trans hb, Ft, hs, hD⟩)
  have cK : CallsIn Fence.wide 5 Try.prog 39 #[.map (some b)] w fun e w' => e = .returned (.func (.func 50) #[] #[.pointer (some ⟨w.heap.size, 0, none⟩)]) ∧ w' = w.alloc (.cells #[.map (some b)] 61) := AnyZ.keys_in Try.keysA Fence.wide 5 trivial rfl (some b) w
  have cS := AnyZ.sorted_in Try.sortedA Fence.wide 5 trivial trivial trivial trivial rfl (by omega) (sortsA _) (enters_of Try.func49 (by kernel_rfl) rfl) 50 #[.pointer (some ⟨w.heap.size, 0, none⟩)] trivial (enters_of Try.func50 (by kernel_rfl) rfl) _ _ hmax hbytes _ hseq
  change CallsIn _ _ Try.prog 38 _ _ _ at cS
  refine (callsIn_wide.1 cK).mono ?_
  rintro e w' ⟨rfl, rfl⟩
  refine ⟨_, rfl, (callsIn_wide.1 cS).mono ?_⟩
  rintro e2 w2 ⟨v, ss, rfl, hS, hrow, -, hb⟩
  exact ⟨v, ss, rfl, hS, ownsRow_base_a hrow (by simp), ((Below.refl _ w).alloc (Nat.le_refl _) _).trans (hb.mono (by simp))⟩

end Go.Proofs.Ytboofbgcdhjhnaa
