/-
  slices.SortFunc of files by their paths (numbers of this seat).
-/
import Derived.Test.YtipeaopaiplhiaaGreatDoorTy
import Derived.Test.YtipeaopaiplhiaaGreatDoorRi
import Derived.KernelRfl
import Derived.Sort.Walk0
namespace Go.Proofs.YtipeaopaiplhiaaGreatDoor
set_option linter.all false
open Go.RT Go.RowKit Go.Maps Go.Sort Go.Shelf

def encFV (x : TFile) : List Value := [mkStr x.fPath, .bool x.fDir, mkStr x.fData]
def cellsF (x : TFile) : List DV := [.str x.fPath, .bool x.fDir, .str x.fData]
def keyF (x : TFile) : List UInt8 := x.fPath
set_option maxHeartbeats 1000000 in
theorem moveCmp (x y : TFile) (W : World) : Calls Tryz.prog 52 #[.agg (encFV x).toArray, .agg (encFV y).toArray] W fun e w' => e = .returned (.int .i64 (Lib.compareBytes (keyF x) (keyF y))) ∧ ∃ q os', w' = grow (W.drewN q) os' := by
  have hcon := fun W' => Any.strings_Compare Tryz.cmpL ⟨⟨x.fPath⟩⟩ ⟨⟨y.fPath⟩⟩ W'
  change ∀ W', Calls Tryz.prog 53 _ _ _ at hcon
  unfold keyF
  change ∀ W', Calls Tryz.prog 53 _ W' fun e w' => e = .returned (.int .i64 (Lib.compareBytes x.fPath y.fPath)) ∧ w' = W' at hcon
  generalize Lib.compareBytes x.fPath y.fPath = r at hcon ⊢
  unfold encFV mkStr
  go_enter Tryz.func52, Tryz.ntmps52
  go_wp2_with (go_at_call 53; refine (hcon _).mono ?_; rintro e w' ⟨rfl, rfl⟩)
  go_ret
  exact ⟨rfl, 0, _, by rw [alloc_eq_grow, alloc_eq_grow, grow_grow]; rfl⟩
theorem mapD (l : List TFile) (j : Nat) (hj : j < l.length) : (l.map cellsF).getD j [] = cellsF l[j] := by simp [List.getD, hj]
theorem flatF (w : World) (pr : Nat → Nat → Prop) (l : List TFile) : Flat w pr 3 (l.flatMap encFV) (l.map cellsF) := by
  have hlen : (l.flatMap encFV).length = l.length * 3 := by
    induction l with
    | nil => rfl
    | cons x l ih => rw [List.flatMap_cons, List.length_append, ih, List.length_cons, Nat.add_mul]; simp [encFV]; omega
  refine ⟨by rw [hlen, List.length_map], fun j hj => ?_, fun j q hj hq => ?_⟩
  · have hj : j < l.length := by simpa using hj
    rw [List.getD, List.getElem?_map, List.getElem?_eq_getElem hj]
    rfl
  · have hj : j < l.length := by simpa using hj
    have e := flat_get encFV 3 (by omega) (fun _ => rfl) l (j * 3 + q)
    rw [show (j * 3 + q) / 3 = j by omega, show (j * 3 + q) % 3 = q by omega, List.getElem?_eq_getElem hj, Option.bind_some] at e
    rw [List.getD, e, mapD l j hj]
    have : q = 0 ∨ q = 1 ∨ q = 2 := by omega
    rcases this with rfl | rfl | rfl
    · exact .str _
    · exact .bool _
    · exact .str _
theorem unflatF (w : World) (pr : Nat → Nat → Prop) (xs : List Value) (l : List TFile) (h : Flat w pr 3 xs (l.map cellsF)) : xs = l.flatMap encFV := by
  have hlen : (l.flatMap encFV).length = l.length * 3 := by
    clear h
    induction l with
    | nil => rfl
    | cons x l ih => rw [List.flatMap_cons, List.length_append, ih, List.length_cons, Nat.add_mul]; simp [encFV]; omega
  have hx : xs.length = l.length * 3 := by rw [h.1, List.length_map]
  refine List.ext_getElem? fun t => ?_
  by_cases ht : t < l.length * 3
  · have hj : t / 3 < l.length := by omega
    have hv := h.2.2 (t / 3) (t % 3) (by simpa using hj) (by omega)
    rw [show t / 3 * 3 + t % 3 = t by omega, List.getD, List.getElem?_eq_getElem (show t < xs.length by omega), Option.getD_some, mapD l _ hj] at hv
    have e := flat_get encFV 3 (by omega) (fun _ => rfl) l t
    rw [List.getElem?_eq_getElem hj, Option.bind_some] at e
    rw [e, List.getElem?_eq_getElem (show t < xs.length by omega)]
    have : t % 3 = 0 ∨ t % 3 = 1 ∨ t % 3 = 2 := by omega
    rcases this with q | q | q
    · rw [q] at hv ⊢
      have := (VD.str_inv hv)
      rw [this]; rfl
    · rw [q] at hv ⊢
      have := (VD.bool_inv hv)
      rw [this]; rfl
    · rw [q] at hv ⊢
      have := (VD.str_inv hv)
      rw [this]; rfl
  · rw [List.getElem?_eq_none (by omega), List.getElem?_eq_none (by omega)]
instance instFV : Inhabited (Ty.den E.D (.ext 0)) := ⟨dTFile⟩
theorem sfAt : SfAt E Tryz.prog 51 52 (.ext 0) 3 encFV keyF where
  enters := entersOf Tryz.func51 (by kernel_rfl) (by kernel_rfl)
  call := fun blk cap l w h1 h2 h3 => AnyQ.slices_SortFunc Tryz.sfL 3 Tryz.isAgg45 Tryz.sizeOf45 encFV (fun _ => rfl) (fun x v hv => by simp [encFV] at hv; rcases hv with rfl | rfl | rfl <;> rfl) (fun x y => Lib.compareBytes (keyF x) (keyF y)) (swo_key keyF) 52 #[] blk 0 cap l.toArray w (entersOf Tryz.func52 (by kernel_rfl) (by kernel_rfl)) (fun _ _ _ _ x y => moveCmp x y _) h1 h2 (show l.length < 4611686018427387904 from h3)
  pos := by omega
  len := fun _ => rfl
  flat := fun w pr l => flatF w pr l
  unflat := fun w pr xs l h => unflatF w pr xs l h
end Go.Proofs.YtipeaopaiplhiaaGreatDoor
