import Derived.Test.YtmklhkmeampamaaGreatDoorPr
namespace Go.Proofs.YtmklhkmeampamaaGreatDoor
open Go.RT
set_option linter.all false
set_option maxRecDepth 100000
theorem comp_len (l : List TRun) : (compL l).length ≤ szL l + 1 := by
  have := foldR_sz l ([], [])
  unfold compL compO
  simp only [szO, List.length_append, List.length_cons, List.length_nil] at *
  omega
theorem szL_q : ∀ {c : List TRun}, (∀ r ∈ c, r.fText.length = 1) → szL c = c.length
  | [], _ => rfl
  | r :: c, h => by
    have := szL_q (c := c) fun x hx => h x (by simp [hx])
    have := h r (by simp)
    unfold szL at *
    simp only [List.map_cons, List.sum_cons, List.length_cons]
    omega
theorem txt_one (p : List UInt8) (c : Int) : txt [TRun.mk p c] = p := by simp [txt]
theorem clean_root {cwd : List UInt8} (h : pathS cwd = true) : cleanS cwd [47] = ([47], 0) := by
  unfold cleanS
  rw [h]
  rfl
end Go.Proofs.YtmklhkmeampamaaGreatDoor
