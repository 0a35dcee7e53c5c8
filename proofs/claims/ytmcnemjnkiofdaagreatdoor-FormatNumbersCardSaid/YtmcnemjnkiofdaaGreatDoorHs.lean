/-
  The library's contracts of this translation (numbers of this seat).
-/
import Derived.Test.YtmcnemjnkiofdaaGreatDoorTy
import Derived.Test.YtmcnemjnkiofdaaGreatDoorFu
import Derived.Test.YtmcnemjnkiofdaaGreatDoorRh
import Derived.Test.YtmcnemjnkiofdaaGreatDoorFw
import Derived.KernelRfl
namespace Go.Proofs.YtmcnemjnkiofdaaGreatDoor
set_option linter.all false
open Go.RT Go.RowKit Go.Maps Go.Sort Go.Shelf
open Go.Proofs (encStr)

theorem joinXtra : Builder.Extra Tryz.prog Tryz.joinL_ren where
  sizeBuilder := by kernel_rfl
  liesBuilder := by kernel_rfl
  t5 := Tryz.underlying5
  a5 := Tryz.isAgg5
  z5 := Tryz.sizeOf5
  v5 := Tryz.zeroValue5
  infoByte := by kernel_rfl
  cellsByte := by kernel_rfl
  sizeByte := by kernel_rfl
  neB5 := by decide
theorem repXtra : Builder.Extra Tryz.prog Tryz.repL_ren where
  sizeBuilder := by kernel_rfl
  liesBuilder := by kernel_rfl
  t5 := Tryz.underlying5
  a5 := Tryz.isAgg5
  z5 := Tryz.sizeOf5
  v5 := Tryz.zeroValue5
  infoByte := by kernel_rfl
  cellsByte := by kernel_rfl
  sizeByte := by kernel_rfl
  neB5 := by decide
theorem joinAt : JoinAt Tryz.prog 16 :=
  ⟨entersOf Tryz.func16 (by kernel_rfl) (by kernel_rfl), fun bk o c xs sep w h1 h2 h3 h4 h5 => Any.strings_Join Tryz.joinL joinXtra bk o c xs sep w h1 h2 h3 h4 h5, fun a c sep w => Any.strings_Join_none Tryz.joinL joinXtra a c sep w⟩
theorem repAt : RepAt Tryz.prog 55 :=
  ⟨entersOf Tryz.func55 (by kernel_rfl) (by kernel_rfl), fun s c w h1 h2 => Any.strings_Repeat Tryz.repL repXtra s c w h1 h2⟩

/-! strconv.FormatUint: the decimal numeral out of the shelf, other bases by the walk -/
def fuF (F : Nat) (u base : Int) : Option (List UInt8) := cond (base == 10 && decide (100 ≤ u)) (rq (decide (u < 18446744073709551616)) (some (Lib.decDigits u.toNat)))
  ((strconv_FormatUint F u base).bind fun r => match r with
    | .inl y => some y
    | .inr _ => none)
def fuC (E : TEnv) (f : FuncId) (F : Nat) : Ctr E := ⟨⟨f, [.one (.dat (.int .u64)), .one (.dat (.int .i64))], [], [], ⟨.one (.dat .str), [], [], []⟩, none, []⟩, fun (x : Int × Int) => fuF F x.1 x.2⟩
set_option maxRecDepth 100000 in
theorem fu_ok (F : Nat) : (fuC E 56 F).Ok Tryz.prog := by
  have key : ∀ (u base : Int) (y : List UInt8), fuF F u base = some y → ACalls (E := E) Tryz.prog 56 [.dat (.int .u64) u, .dat (.int .i64) base] [] [] [] ⟨true, .dat .str y, [], [], [], []⟩ := by
    intro u base y hy
    unfold fuF at hy
    cases hb : (base == 10 && decide (100 ≤ u)) <;> rw [hb] at hy <;> simp only [cond_true, cond_false] at hy
    · cases hf : strconv_FormatUint F u base with
      | none => rw [hf] at hy; cases hy
      | some r =>
        rw [hf] at hy
        cases r with
        | inr z => cases hy
        | inl z =>
          cases hy
          exact strconv_FormatUint_ok F (u, base) (.inl y) hf
    · obtain ⟨h1, h2⟩ := rq_some hy
      rw [decide_eq_true_eq] at h1
      cases h2
      rw [Bool.and_eq_true, beq_iff_eq, decide_eq_true_eq] at hb
      obtain ⟨rfl, hu⟩ := hb
      intro w G args hP hB hS hv
      obtain ⟨v1, us, ha, hv1, hv2⟩ := hv.cons_inv
      obtain ⟨v2, us2, ha2, hv3, hv4⟩ := hv2.cons_inv
      have hv4 : us2 = [] := by simpa only [VTs] using hv4
      have e1 := hv1.int_inv
      have e2 := hv3.int_inv
      subst e1 e2 hv4 ha2
      have ha : args = #[.int .u64 u, .int .i64 10] := by apply Array.ext'; exact ha
      subst ha
      unfold Invokes
      rw [entersOf Tryz.func56 (by kernel_rfl) (by kernel_rfl)]
      have hT : Lib.TabIs Tryz.prog w "internal/strconv.uint64pow10" .u64 Lib.pow10Tab := tabIs_of_pins (g := 1) hP (by kernel_rfl) rfl
      have hC := formatUint10 u.toNat (by omega) (by omega) w hT
      rw [Int.toNat_of_nonneg (by omega)] at hC
      refine Calls.mono hC fun e w' hh => ?_
      obtain ⟨rfl, k, os, rfl⟩ := hh
      have hs : Same w (Go.Sort.grow (w.drewN k) os) := ⟨by simp [Go.Sort.grow, World.drewN], fun b hb => by
        show (w.heap ++ os)[b]? = _
        rw [Array.getElem?_append_left hb]⟩
      obtain ⟨q1, q2, q4, q3⟩ := hB.grown hP hS hs rfl rfl rfl
      exact ⟨_, G, rfl, q1, q2, q4, .str _ _ _, fun q b hq _ => q3 q b hq⟩
  intro x y hy
  exact key x.1 x.2 y hy

end Go.Proofs.YtmcnemjnkiofdaaGreatDoor
