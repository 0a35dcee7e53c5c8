import Derived.Test.YteagcbkkonabbaaGreatDoorAw
import Derived.Test.YteagcbkkonabbaaGreatDoorMs
import Derived.Test.YteagcbkkonabbaaGreatDoorEw
namespace Go.Proofs.YteagcbkkonabbaaGreatDoor
open Go.RT
set_option linter.all false
def rtOk (n : Nat) : Bool := match Lib.atoiAll (Lib.itoa (n : Int)) with
  | .ok v => v == (n : Int) && Nat.ble (Lib.itoa (n : Int)).length 3
  | _ => false
set_option maxRecDepth 100000 in
theorem rt1000 : ∀ n : Fin 1000, rtOk n.val = true := by decide +kernel
def sm (n : Int) : Prop := 0 ≤ n ∧ n < 1000
theorem atoi_small {n : Int} (h : sm n) (F : Nat) : atoiF F (Lib.itoa n) = some n := by
  obtain ⟨m, rfl⟩ : ∃ m : Nat, n = (m : Int) := ⟨n.toNat, by have := h.1; omega⟩
  have h1 := rt1000 ⟨m, by have := h.2; omega⟩
  unfold rtOk at h1
  unfold atoiF
  dsimp only at h1
  cases h2 : Lib.atoiAll (Lib.itoa (m : Int)) <;> rw [h2] at h1 <;> try (cases h1; done)
  rename_i v
  dsimp only at h1 ⊢
  rw [Bool.and_eq_true] at h1
  have hv : v = (m : Int) := by simpa using h1.1
  have hl := Nat.le_of_ble_eq_true h1.2
  rw [rq1 (by omega), hv]
theorem itoa_small {n : Int} (h : sm n) (F : Nat) : itoaF F n = some (Lib.itoa n) := by
  unfold itoaF
  rw [rq2 (by have := h.1; omega) (by have := h.2; omega)]
def rl (r : TAinti648) : List Int := [r.1, r.2.1, r.2.2.1, r.2.2.2.1, r.2.2.2.2.1, r.2.2.2.2.2.1, r.2.2.2.2.2.2.1, r.2.2.2.2.2.2.2.1]
def linesOf (r : TAinti648) : List (List UInt8) := (rl r).map Lib.itoa
def smR (r : TAinti648) : Prop := ∀ n ∈ rl r, sm n
def okL (l : List (List UInt8)) : Prop := l.length ≤ 1000000
theorem clone_ok {l : List (List UInt8)} (h : okL l) (F : Nat) : cloneF F l = some l := by
  unfold cloneF okL at *
  rw [rq2 (by omega) (by omega)]
def regsAt (r : TAinti648) : Nat → TAinti648
  | 0 => (0, (0, (0, (0, (0, (0, (0, (0, ()))))))))
  | 1 => (r.1, (0, (0, (0, (0, (0, (0, (0, ()))))))))
  | 2 => (r.1, (r.2.1, (0, (0, (0, (0, (0, (0, ()))))))))
  | 3 => (r.1, (r.2.1, (r.2.2.1, (0, (0, (0, (0, (0, ()))))))))
  | 4 => (r.1, (r.2.1, (r.2.2.1, (r.2.2.2.1, (0, (0, (0, (0, ()))))))))
  | 5 => (r.1, (r.2.1, (r.2.2.1, (r.2.2.2.1, (r.2.2.2.2.1, (0, (0, (0, ()))))))))
  | 6 => (r.1, (r.2.1, (r.2.2.1, (r.2.2.2.1, (r.2.2.2.2.1, (r.2.2.2.2.2.1, (0, (0, ()))))))))
  | 7 => (r.1, (r.2.1, (r.2.2.1, (r.2.2.2.1, (r.2.2.2.2.1, (r.2.2.2.2.2.1, (r.2.2.2.2.2.2.1, (0, ()))))))))
  | _ => r
theorem load_first (F : Nat) (u : TUtil) (w : Twords) (hF : 20 ≤ F) (ha : 0 < u.fArgs.length) (hw : util_split F u.fName (sl u.fArgs 1 (u.fArgs.length : Int)) = some w) (hl : u.fLines = []) :
    util_load F u = some (u, u, w, (0, (0, (0, (0, (0, (0, (0, (0, ())))))))), []) := by
  unfold util_load
  rw [ct (by omega), rq2 (by omega) (by omega), hw, Option.bind_some, Option.bind_some]
  obtain ⟨G, rfl⟩ : ∃ G, F = G + 1 := ⟨F - 1, by omega⟩
  show cond _ _ _ = _
  rw [hl]
  rfl
abbrev Eng := TUtil × Twords × TAinti648
noncomputable def adv (F : Nat) (a : TAns) (e : Eng) : Option (TReq × Bool × TUtil × Twords × TAinti648 × (List Int)) := util_engine_advance F a e.1 e.2.1 e.2.2 []
inductive Runs (F : Nat) (a : TAns) : Nat → Eng → TReq → Eng → Prop
  | stop {e : Eng} {q : TReq} {e' : Eng} (h : adv F a e = some (q, true, e'.1, e'.2.1, e'.2.2, [])) : Runs F a 0 e q e'
  | go {n : Nat} {e e1 : Eng} {q0 q : TReq} {e' : Eng} (h : adv F a e = some (q0, false, e1.1, e1.2.1, e1.2.2, [])) (h' : Runs F a n e1 q e') : Runs F a (n + 1) e q e'
end Go.Proofs.YteagcbkkonabbaaGreatDoor
