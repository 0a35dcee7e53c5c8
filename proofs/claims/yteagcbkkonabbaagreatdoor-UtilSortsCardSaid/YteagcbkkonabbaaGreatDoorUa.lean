/-
  Util: the registers as numerals: what store writes, load reads.
-/
import Derived.Test.YteagcbkkonabbaaGreatDoorAw
import Derived.Test.YteagcbkkonabbaaGreatDoorMs
import Derived.Test.YteagcbkkonabbaaGreatDoorEw
namespace Go.Proofs.YteagcbkkonabbaaGreatDoor
open Go.RT
set_option linter.all false

def rtOk (n : Nat) : Bool := match Lib.atoiAll (Lib.itoa (n : Int)) with
  | .ok v => v == (n : Int) && Nat.ble (Lib.itoa (n : Int)).length 3
  | _ => false
set_option maxRecDepth 100000 in
theorem rt1000 : ∀ n : Fin 1000, rtOk n.val = true := by decide +kernel
/-- A register's number. -/
def sm (n : Int) : Prop := 0 ≤ n ∧ n < 1000
theorem atoi_small {n : Int} (h : sm n) (F : Nat) : atoiF F (Lib.itoa n) = some n := by
  obtain ⟨m, rfl⟩ : ∃ m : Nat, n = (m : Int) := ⟨n.toNat, by have := h.1; omega⟩
  have h1 := rt1000 ⟨m, by have := h.2; omega⟩
  unfold rtOk at h1
  unfold atoiF
  dsimp only at h1
  cases h2 : Lib.atoiAll (Lib.itoa (m : Int)) <;> rw [h2] at h1 <;> try (cases h1; done)
  rename_i v
  dsimp only at h1 ⊢
  rw [Bool.and_eq_true] at h1
  have hv : v = (m : Int) := by simpa using h1.1
  have hl := Nat.le_of_ble_eq_true h1.2
  rw [rq1 (by omega), hv]
theorem itoa_small {n : Int} (h : sm n) (F : Nat) : itoaF F n = some (Lib.itoa n) := by
  unfold itoaF
  rw [rq2 (by have := h.1; omega) (by have := h.2; omega)]

def rl (r : TAinti648) : List Int := [r.1, r.2.1, r.2.2.1, r.2.2.2.1, r.2.2.2.2.1, r.2.2.2.2.2.1, r.2.2.2.2.2.2.1, r.2.2.2.2.2.2.2.1]
def linesOf (r : TAinti648) : List (List UInt8) := (rl r).map Lib.itoa
def smR (r : TAinti648) : Prop := ∀ n ∈ rl r, sm n

/-- Lists that slices.Clone copies. -/
def okL (l : List (List UInt8)) : Prop := l.length ≤ 1000000
theorem clone_ok {l : List (List UInt8)} (h : okL l) (F : Nat) : cloneF F l = some l := by
  unfold cloneF okL at *
  rw [rq2 (by omega) (by omega)]

theorem store_eq (F : Nat) (u : TUtil) (w : Twords) (r : TAinti648) (hF : 20 ≤ F) (hr : smR r) (h1 : okL u.fArgs) (h2 : okL u.fEnv) : util_engine_store F u w r [] = some { u with fLines := linesOf r } := by
  unfold util_engine_store
  rw [clone_ok h1, Option.bind_some, clone_ok h2, Option.bind_some]
  have h3 : slices_Clone_1 F u w r [] = some (rl r) := by
    unfold slices_Clone_1
    simp only [List.nil_append]
    rw [rq2 (by simp only [List.length_cons, List.length_nil]; omega) (by simp only [List.length_cons, List.length_nil]; omega)]
    rfl
  rw [h3, Option.bind_some]
  have hl : (rl r ++ []).length = 8 := rfl
  rw [rq2 (by show 8 + 0 ≤ 9223372036854775807; omega) (by show (8 + 0) * 8 ≤ 140737488355328; omega)]
  refine loopF_seq (fun i => ((i : Int), u.fName, u.fArgs, u.fEnv, u.fState, u.fN, u.fBuf, (linesOf r).take i, u.fOut)) 8 (by omega) rfl (fun i rc hi => ?_) (fun rc => ?_)
  · dsimp only
    rw [hl, ct (by omega), rq2 (by omega) (by omega), Int.toNat_natCast]
    have hi' : i < (rl r).length := hi
    have e1 : (rl r ++ []).getD i 0 = (rl r)[i] := by simp [List.getD, hi']
    rw [e1, itoa_small (hr _ (List.getElem_mem hi')), Option.bind_some]
    have hlen : ((linesOf r).take i).length ≤ 8 := by simp [linesOf]; omega
    rw [rq2 (by simp only [List.length_cons, List.length_nil]; omega) (by simp only [List.length_cons, List.length_nil]; omega), w64_nat (by omega)]
    have e2 : (linesOf r).take (i + 1) = (linesOf r).take i ++ [Lib.itoa (rl r)[i]] := by
      have : i < (linesOf r).length := by simpa [linesOf] using hi'
      rw [List.take_succ_eq_append_getElem this]
      simp [linesOf]
    rw [e2]
  · dsimp only
    rw [hl, cf (by omega)]
    have : (linesOf r).take 8 = linesOf r := List.take_of_length_le (by simp [linesOf, rl])
    rw [this]

def regsAt (r : TAinti648) : Nat → TAinti648
  | 0 => (0, (0, (0, (0, (0, (0, (0, (0, ()))))))))
  | 1 => (r.1, (0, (0, (0, (0, (0, (0, (0, ()))))))))
  | 2 => (r.1, (r.2.1, (0, (0, (0, (0, (0, (0, ()))))))))
  | 3 => (r.1, (r.2.1, (r.2.2.1, (0, (0, (0, (0, (0, ()))))))))
  | 4 => (r.1, (r.2.1, (r.2.2.1, (r.2.2.2.1, (0, (0, (0, (0, ()))))))))
  | 5 => (r.1, (r.2.1, (r.2.2.1, (r.2.2.2.1, (r.2.2.2.2.1, (0, (0, (0, ()))))))))
  | 6 => (r.1, (r.2.1, (r.2.2.1, (r.2.2.2.1, (r.2.2.2.2.1, (r.2.2.2.2.2.1, (0, (0, ()))))))))
  | 7 => (r.1, (r.2.1, (r.2.2.1, (r.2.2.2.1, (r.2.2.2.2.1, (r.2.2.2.2.2.1, (r.2.2.2.2.2.2.1, (0, ()))))))))
  | _ => r

theorem load_eq (F : Nat) (u : TUtil) (w : Twords) (r : TAinti648) (hF : 20 ≤ F) (ha : 0 < u.fArgs.length) (hw : util_split F u.fName (sl u.fArgs 1 (u.fArgs.length : Int)) = some w) (hr : smR r) (hl : u.fLines = linesOf r) :
    util_load F u = some (u, u, w, r, []) := by
  unfold util_load
  rw [ct (by omega), rq2 (by omega) (by omega), hw, Option.bind_some, Option.bind_some]
  have hlen : u.fLines.length = 8 := by rw [hl]; rfl
  refine loopF_seq (fun i => ((i : Int), u, w, regsAt r i, ([] : List Int))) 8 (by omega) rfl (fun i rc hi => ?_) (fun rc => ?_)
  · dsimp only
    rw [hlen, ct (by omega), rq2 (by omega) (by omega), Int.toNat_natCast, hl]
    have hi' : i < (rl r).length := hi
    have e1 : (linesOf r).getD i [] = Lib.itoa (rl r)[i] := by
      have : i < (linesOf r).length := by simpa [linesOf] using hi'
      simp [List.getD, linesOf, hi']
    rw [e1, atoi_small (hr _ (List.getElem_mem hi')), Option.bind_some, ct (by omega), w64_nat (by omega)]
    have hc : i = 0 ∨ i = 1 ∨ i = 2 ∨ i = 3 ∨ i = 4 ∨ i = 5 ∨ i = 6 ∨ i = 7 := by omega
    rcases hc with rfl | rfl | rfl | rfl | rfl | rfl | rfl | rfl <;> rfl
  · dsimp only
    rw [hlen, cf (by omega)]
    rfl
/-- A utility at its beginning has no registers. -/
theorem load_first (F : Nat) (u : TUtil) (w : Twords) (hF : 20 ≤ F) (ha : 0 < u.fArgs.length) (hw : util_split F u.fName (sl u.fArgs 1 (u.fArgs.length : Int)) = some w) (hl : u.fLines = []) :
    util_load F u = some (u, u, w, (0, (0, (0, (0, (0, (0, (0, (0, ())))))))), []) := by
  unfold util_load
  rw [ct (by omega), rq2 (by omega) (by omega), hw, Option.bind_some, Option.bind_some]
  obtain ⟨G, rfl⟩ : ∃ G, F = G + 1 := ⟨F - 1, by omega⟩
  show cond _ _ _ = _
  rw [hl]
  rfl

/-! ### Steps of the engine -/
abbrev Eng := TUtil × Twords × TAinti648
/-- What the engine does until its next request. -/
noncomputable def adv (F : Nat) (a : TAns) (e : Eng) : Option (TReq × Bool × TUtil × Twords × TAinti648 × (List Int)) := util_engine_advance F a e.1 e.2.1 e.2.2 []
/-- Steps: the engine goes on from e with no request to e', and so on; then a request. -/
inductive Runs (F : Nat) (a : TAns) : Nat → Eng → TReq → Eng → Prop
  | stop {e : Eng} {q : TReq} {e' : Eng} (h : adv F a e = some (q, true, e'.1, e'.2.1, e'.2.2, [])) : Runs F a 0 e q e'
  | go {n : Nat} {e e1 : Eng} {q0 q : TReq} {e' : Eng} (h : adv F a e = some (q0, false, e1.1, e1.2.1, e1.2.2, [])) (h' : Runs F a n e1 q e') : Runs F a (n + 1) e q e'

theorem runs_loop {F : Nat} {a : TAns} {n : Nat} {e : Eng} {q : TReq} {e' : Eng} (h : Runs F a n e q e') : ∀ (G i : Nat), i + n < 100 → n < G → smR e'.2.2 → okL e'.1.fArgs → okL e'.1.fEnv → 20 ≤ F →
    loopF (σ := Int × TUtil × Twords × TAinti648 × (List Int)) (R := TUtil × TReq) (fun rc3 x2 =>
 cond (decide (x2.1 < 100))
 ((util_engine_advance F a x2.2.1 x2.2.2.1 x2.2.2.2.1 x2.2.2.2.2).bind fun x4 =>
 cond x4.2.1
 ((util_engine_store F x4.2.2.1 x4.2.2.2.1 x4.2.2.2.2.1 x4.2.2.2.2.2).bind fun x5 =>
 some (x5, x4.1))
 (rc3 (w64 (x2.1 + 1), x4.2.2.1, x4.2.2.2.1, x4.2.2.2.2.1, x4.2.2.2.2.2)))
 ((util_engine_exit F 1 x2.2.1 x2.2.2.1 x2.2.2.2.1 x2.2.2.2.2).bind fun x6 =>
 (util_engine_store F x6.1 x6.2.1 x6.2.2.1 x6.2.2.2).bind fun x7 =>
 some (x7, (TReq.mk 9 0 0 0 0 0 x6.1.fN 0 [] [] [] [])))) G ((i : Int), e.1, e.2.1, e.2.2, []) = some ({ e'.1 with fLines := linesOf e'.2.2 }, q) := by
  induction h with
  | @stop e q e' h =>
    intro G i hi hG hs h1 h2 hF
    obtain ⟨G, rfl⟩ : ∃ k, G = k + 1 := ⟨G - 1, by omega⟩
    show cond _ _ _ = _
    dsimp only
    rw [ct (by omega), show util_engine_advance F a e.1 e.2.1 e.2.2 [] = adv F a e from rfl, h, Option.bind_some]
    dsimp only [cond_true]
    rw [store_eq F _ _ _ hF hs h1 h2]
    rfl
  | @go n e e1 q0 q e' h h' ih =>
    intro G i hi hG hs h1 h2 hF
    obtain ⟨G, rfl⟩ : ∃ k, G = k + 1 := ⟨G - 1, by omega⟩
    show cond _ _ _ = _
    dsimp only
    rw [ct (by omega), show util_engine_advance F a e.1 e.2.1 e.2.2 [] = adv F a e from rfl, h, Option.bind_some]
    dsimp only [cond_false]
    rw [w64_nat (by omega)]
    exact ih G (i + 1) (by omega) (by omega) hs h1 h2 hF

theorem step_eq {F n : Nat} {u : TUtil} {a : TAns} {e : Eng} {q : TReq} {e' : Eng} (hl : util_load F u = some (u, e.1, e.2.1, e.2.2, [])) (h : Runs F a n e q e') (hn : n < 100) (hF : 200 ≤ F) (hs : smR e'.2.2) (h1 : okL e'.1.fArgs) (h2 : okL e'.1.fEnv) :
    util_Step F u a = some ({ e'.1 with fLines := linesOf e'.2.2 }, q) := by
  unfold util_Step
  rw [hl, Option.bind_some]
  exact runs_loop h F 0 (by omega) (by omega) hs h1 h2 (by omega)

end Go.Proofs.YteagcbkkonabbaaGreatDoor
