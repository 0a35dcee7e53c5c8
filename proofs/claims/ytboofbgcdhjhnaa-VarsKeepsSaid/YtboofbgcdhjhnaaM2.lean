/- Models of the code, and that the code computes them: printed by program (alm.py). -/
import Derived.Test.YtboofbgcdhjhnaaM1
namespace Go.Proofs.Ytboofbgcdhjhnaa
open Go.AL
set_option linter.unusedVariables false
def vars_Get_1_i0 (a0 : TVar) (b0 : List UInt8) (b1 : TVar) (b2 : TVar) : Bool :=
  a0.fName == b0
theorem vars_Get_1_i0_ok (a0 : TVar) (b0 : List UInt8) (b1 : TVar) (b2 : TVar) (r : Bool) (h : vars_Get_1_i0 a0 b0 b1 b2 = r) : ACalls Try.prog 31 [.agg [.str a0.fName, .str a0.fValue, .bool a0.fSet, .bool a0.fExport, .bool a0.fReadonly], .ptr false 0 0] [.cells 9 [.str b0], .cells 26 [.str b1.fName, .str b1.fValue, .bool b1.fSet, .bool b1.fExport, .bool b1.fReadonly], .cells 26 [.str b2.fName, .str b2.fValue, .bool b2.fSet, .bool b2.fExport, .bool b2.fReadonly]] (fun q => q = ⟨.bool r, [.cells 9 [.str b0], .cells 26 [.str b1.fName, .str b1.fValue, .bool b1.fSet, .bool b1.fExport, .bool b1.fReadonly], .cells 26 [.str b2.fName, .str b2.fValue, .bool b2.fSet, .bool b2.fExport, .bool b2.fReadonly]], [], []⟩) := by
  unfold vars_Get_1_i0 at h
  refine ACalls.noown ?_
  refine ACalls.intro (fn := Try.f31) Try.func31 rfl ?_
  refine AWp.keep [0, 1] (st' := ⟨sp [(0, .agg [.str a0.fName, .str a0.fValue, .bool a0.fSet, .bool a0.fExport, .bool a0.fReadonly]), (1, .ptr false 0 0)] 0 8, [], [.cells 9 [.str b0], .cells 26 [.str b1.fName, .str b1.fValue, .bool b1.fSet, .bool b1.fExport, .bool b1.fReadonly], .cells 26 [.str b2.fName, .str b2.fValue, .bool b2.fSet, .bool b2.fExport, .bool b2.fReadonly]], []⟩) (by kernel_rfl) ?_
  refine AWp.seqX [1, 2] (tg := []) (H := []) (st' := ⟨sp [(1, .ptr false 0 0), (2, .ptr true 0 0)] 0 8, [.cells 26 [.str a0.fName, .str a0.fValue, .bool a0.fSet, .bool a0.fExport, .bool a0.fReadonly]], [.cells 9 [.str b0], .cells 26 [.str b1.fName, .str b1.fValue, .bool b1.fSet, .bool b1.fExport, .bool b1.fReadonly], .cells 26 [.str b2.fName, .str b2.fValue, .bool b2.fSet, .bool b2.fExport, .bool b2.fReadonly]], []⟩) (ob := ((True ∧ (true = true)) ∧ (True ∧ True))) (by kernel_rfl) ⟨⟨trivial, rfl⟩, ⟨trivial, trivial⟩⟩ ?_
  refine AWp.seqX [3] (tg := [3, 7]) (H := []) (st' := ⟨sp [(3, .bool (a0.fName == b0))] 0 8, [.cells 26 [.str a0.fName, .str a0.fValue, .bool a0.fSet, .bool a0.fExport, .bool a0.fReadonly]], [.cells 9 [.str b0], .cells 26 [.str b1.fName, .str b1.fValue, .bool b1.fSet, .bool b1.fExport, .bool b1.fReadonly], .cells 26 [.str b2.fName, .str b2.fValue, .bool b2.fSet, .bool b2.fExport, .bool b2.fReadonly]], []⟩) (ob := ((True ∧ (1 ≠ 0)) ∧ ((True ∧ (0 < 5)) ∧ ((True ∧ (0 < 1)) ∧ ((True ∧ (True ∧ True)) ∧ (True ∧ True)))))) (by kernel_rfl) ⟨⟨trivial, (by decide)⟩, ⟨⟨trivial, (by decide)⟩, ⟨⟨trivial, (by decide)⟩, ⟨⟨trivial, ⟨trivial, trivial⟩⟩, ⟨trivial, trivial⟩⟩⟩⟩⟩ ?_
  refine AWp.ret ?_
  obtain rfl := h
  exact ⟨[.bool (a0.fName == b0)], (True ∧ True), by kernel_rfl, ⟨trivial, trivial⟩, by kernel_rfl, ⟨rfl, rfl, rfl⟩⟩
def vars_find_i0_l0_b (a0 : List TVar) (b0 : List UInt8) (b1 : TVar) (n6 : Nat) (recvars_find_i0_l0 : Int → Option (J Unit Int)) (x5 : Int) : Option (J Unit Int) :=
  cond (decide (x5 < (a0.length : Int))) (
    req (((0 : Int) ≤ x5) ∧ (x5 < (a0.length : Int))) (
      cond (vars_Get_1_i0 (a0.getD (x5 : Int).toNat default) b0 b1 (a0.getD (x5 : Int).toNat default)) (
        some (J.ret x5)) (
        recvars_find_i0_l0 (IntKind.i64.wrap (x5 + 1))))) (
    some (J.go ()))
def vars_find_i0_l0 (a0 : List TVar) (b0 : List UInt8) (b1 : TVar) : Nat → Int → Option (J Unit Int)
  | 0, _ => none
  | n + 1, x => vars_find_i0_l0_b a0 b0 b1 n (vars_find_i0_l0 a0 b0 b1 n) x
def vars_find_i0 (fuel : Nat) (a0 : List TVar) (b0 : List UInt8) (b1 : TVar) : Option Int :=
  jn (vars_find_i0_l0 a0 b0 b1 fuel (0 : Int)) (fun s1 =>
    some (-1))
theorem vars_find_i0_ok (fuel : Nat) (a0 : List TVar) (b0 : List UInt8) (b1 : TVar) (r : Int) (h : vars_find_i0 fuel a0 b0 b1 = some r) : ACalls Try.prog 30 [.slice 5 (a0.map encTVar), .func (.func 31) [.ptr false 0 0]] [.cells 9 [.str b0], .cells 26 [.str b1.fName, .str b1.fValue, .bool b1.fSet, .bool b1.fExport, .bool b1.fReadonly]] (fun q => q = ⟨.int .i64 r, [.cells 9 [.str b0], .cells 26 [.str b1.fName, .str b1.fValue, .bool b1.fSet, .bool b1.fExport, .bool b1.fReadonly]], [], []⟩) := by
  unfold vars_find_i0 at h
  refine ACalls.noown ?_
  refine ACalls.intro (fn := Try.f30) Try.func30 rfl ?_
  refine AWp.keep [0, 1] (st' := ⟨sp [(0, .slice 5 (a0.map encTVar)), (1, .func (.func 31) [.ptr false 0 0])] 0 19, [], [.cells 9 [.str b0], .cells 26 [.str b1.fName, .str b1.fValue, .bool b1.fSet, .bool b1.fExport, .bool b1.fReadonly]], []⟩) (by kernel_rfl) ?_
  refine AWp.seqX [0, 1] (tg := []) (H := []) (st' := ⟨sp [(0, .slice 5 (a0.map encTVar)), (1, .func (.func 31) [.ptr false 0 0])] 0 19, [], [.cells 9 [.str b0], .cells 26 [.str b1.fName, .str b1.fValue, .bool b1.fSet, .bool b1.fExport, .bool b1.fReadonly]], []⟩) (ob := (True ∧ True)) (by kernel_rfl) ⟨trivial, trivial⟩ ?_
  obtain ⟨j3, e2, k4⟩ := jn_some h
  refine AWp.seqSum (σ := Unit) (fun s1 => ⟨sp [] 0 19, [], [.cells 9 [.str b0], .cells 26 [.str b1.fName, .str b1.fValue, .bool b1.fSet, .bool b1.fExport, .bool b1.fReadonly]], []⟩) (fun s1 => j3 = .go s1) ?_ ?_
  ·
    refine AWp.seqX [1, 7, 8, 9] (tg := []) (H := [(8, .int .i64 (a0.length : Int))]) (st' := ⟨sp [(1, .func (.func 31) [.ptr false 0 0]), (7, .slice 5 (a0.map encTVar)), (8, .int .i64 (a0.length : Int)), (9, .int .i64 0)] 0 19, [], [.cells 9 [.str b0], .cells 26 [.str b1.fName, .str b1.fValue, .bool b1.fSet, .bool b1.fExport, .bool b1.fReadonly]], []⟩) (ob := (True ∧ (((True ∧ True) ∧ ((.int .i64 ((a0.map encTVar).length : Int) : DV) = .int .i64 (a0.length : Int))) ∧ (True ∧ True)))) (by kernel_rfl) ⟨trivial, ⟨⟨⟨trivial, trivial⟩, (congrArg (fun n : Nat => DV.int .i64 n) (List.length_map _))⟩, ⟨trivial, trivial⟩⟩⟩ ?_
    refine AWp.block ?_
    refine AWp.loop (ι := {p : Nat × (Int) // vars_find_i0_l0 a0 b0 b1 p.1 p.2 = some _}) (fun p => ⟨sp [(1, .func (.func 31) [.ptr false 0 0]), (7, .slice 5 (a0.map encTVar)), (8, .int .i64 (a0.length : Int)), (9, .int .i64 p.1.2)] 0 19, [], [.cells 9 [.str b0], .cells 26 [.str b1.fName, .str b1.fValue, .bool b1.fSet, .bool b1.fExport, .bool b1.fReadonly]], []⟩) (fun p => p.1.1) ⟨(fuel, (0 : Int)), e2⟩ ⟨⟨.inl rfl, ⟨.inr ⟨rfl, rfl⟩, ⟨.inl rfl, ⟨.inl rfl, ⟨.inl rfl, ⟨.inl rfl, ⟨.inl rfl, ⟨.inr ⟨rfl, rfl⟩, ⟨.inr ⟨rfl, rfl⟩, ⟨.inr ⟨rfl, rfl⟩, ⟨.inl rfl, ⟨.inl rfl, ⟨.inl rfl, ⟨.inl rfl, ⟨.inl rfl, ⟨.inl rfl, ⟨.inl rfl, ⟨.inl rfl, ⟨.inl rfl, trivial⟩⟩⟩⟩⟩⟩⟩⟩⟩⟩⟩⟩⟩⟩⟩⟩⟩⟩⟩, rfl, rfl, rfl, ⟨_, .slnil, (.refl _)⟩, rfl⟩ ?_
    rintro ⟨⟨n6, x5⟩, h⟩
    cases n6 with
    | zero => cases h
    | succ n6 =>
      replace h : vars_find_i0_l0_b a0 b0 b1 n6 (vars_find_i0_l0 a0 b0 b1 n6) x5 = some _ := h
      unfold vars_find_i0_l0_b at h
      refine AWp.seqX [1, 7, 8, 9, 10] (tg := []) (H := []) (st' := ⟨sp [(1, .func (.func 31) [.ptr false 0 0]), (7, .slice 5 (a0.map encTVar)), (8, .int .i64 (a0.length : Int)), (9, .int .i64 x5), (10, .bool (decide (x5 < (a0.length : Int))))] 0 19, [], [.cells 9 [.str b0], .cells 26 [.str b1.fName, .str b1.fValue, .bool b1.fSet, .bool b1.fExport, .bool b1.fReadonly]], []⟩) (ob := ((True ∧ (True ∧ (IntKind.i64 = IntKind.i64))) ∧ True)) (by kernel_rfl) ⟨⟨trivial, ⟨trivial, rfl⟩⟩, trivial⟩ ?_
      refine AWp.seq ?_
      refine AWp.cond (b := decide (x5 < (a0.length : Int))) (by kernel_rfl) trivial (fun c7 => ?_) (fun c7 => ?_)
      · have h := cond_t c7 h
        refine AWp.skip ?_
        refine AWp.seq ?_
        refine AWp.block ?_
        obtain ⟨⟨o8, o9⟩, h⟩ := req_some h
        refine AWp.seqX [1, 5, 6, 7, 8, 9] (tg := [5, 11, 13]) (H := [(12, .cptr [.str ((a0.getD (x5 : Int).toNat default).fName), .str ((a0.getD (x5 : Int).toNat default).fValue), .bool ((a0.getD (x5 : Int).toNat default).fSet), .bool ((a0.getD (x5 : Int).toNat default).fExport), .bool ((a0.getD (x5 : Int).toNat default).fReadonly)] 0)]) (st' := ⟨sp [(1, .func (.func 31) [.ptr false 0 0]), (5, .int .i64 x5), (6, .ptr true 0 0), (7, .slice 5 (a0.map encTVar)), (8, .int .i64 (a0.length : Int)), (9, .int .i64 x5)] 0 19, [.cells 26 [.str ((a0.getD (x5 : Int).toNat default).fName), .str ((a0.getD (x5 : Int).toNat default).fValue), .bool ((a0.getD (x5 : Int).toNat default).fSet), .bool ((a0.getD (x5 : Int).toNat default).fExport), .bool ((a0.getD (x5 : Int).toNat default).fReadonly)]], [.cells 9 [.str b0], .cells 26 [.str b1.fName, .str b1.fValue, .bool b1.fSet, .bool b1.fExport, .bool b1.fReadonly]], []⟩) (ob := (True ∧ (((True ∧ (True ∧ (((0 : Int) ≤ x5) ∧ ((x5 < ((a0.map encTVar).length : Int)) ∧ (5 = 5))))) ∧ ((.cptr ((a0.map encTVar).getD (x5 : Int).toNat []) 0 : DV) = .cptr [.str ((a0.getD (x5 : Int).toNat default).fName), .str ((a0.getD (x5 : Int).toNat default).fValue), .bool ((a0.getD (x5 : Int).toNat default).fSet), .bool ((a0.getD (x5 : Int).toNat default).fExport), .bool ((a0.getD (x5 : Int).toNat default).fReadonly)] 0)) ∧ ((True ∧ (0 + 5 ≤ 5)) ∧ ((true = true) ∧ (True ∧ ((True ∧ (True ∧ ((true = true) ∧ (0 + 5 ≤ 5)))) ∧ True))))))) (by kernel_rfl) ⟨trivial, ⟨⟨⟨trivial, ⟨trivial, ⟨o8, ⟨(lt_map o9), rfl⟩⟩⟩⟩, (congrArg (fun c => DV.cptr c 0) (getD_encI encTVar a0 (x5 : Int) o8 o9))⟩, ⟨⟨trivial, (by decide)⟩, ⟨rfl, ⟨trivial, ⟨⟨trivial, ⟨trivial, ⟨rfl, (by decide)⟩⟩⟩, trivial⟩⟩⟩⟩⟩⟩ ?_
        refine AWp.seqO ?_
        refine AOps.runK [1, 5, 7, 8, 9, 14, 15] 2 (tg := []) (H := []) (st' := ⟨sp [(1, .func (.func 31) [.ptr false 0 0]), (5, .int .i64 x5), (7, .slice 5 (a0.map encTVar)), (8, .int .i64 (a0.length : Int)), (9, .int .i64 x5), (14, .func (.func 31) [.ptr false 0 0]), (15, .agg [.str ((a0.getD (x5 : Int).toNat default).fName), .str ((a0.getD (x5 : Int).toNat default).fValue), .bool ((a0.getD (x5 : Int).toNat default).fSet), .bool ((a0.getD (x5 : Int).toNat default).fExport), .bool ((a0.getD (x5 : Int).toNat default).fReadonly)])] 0 19, [.cells 26 [.str ((a0.getD (x5 : Int).toNat default).fName), .str ((a0.getD (x5 : Int).toNat default).fValue), .bool ((a0.getD (x5 : Int).toNat default).fSet), .bool ((a0.getD (x5 : Int).toNat default).fExport), .bool ((a0.getD (x5 : Int).toNat default).fReadonly)]], [.cells 9 [.str b0], .cells 26 [.str b1.fName, .str b1.fValue, .bool b1.fSet, .bool b1.fExport, .bool b1.fReadonly]], []⟩) (ob := (True ∧ ((True ∧ (0 + 5 ≤ 5)) ∧ True))) (by kernel_rfl) ⟨trivial, ⟨⟨trivial, (by decide)⟩, trivial⟩⟩ ?_
        refine AOps.ccall (caps := [.ptr false 0 0]) (ds := [.agg [.str ((a0.getD (x5 : Int).toNat default).fName), .str ((a0.getD (x5 : Int).toNat default).fValue), .bool ((a0.getD (x5 : Int).toNat default).fSet), .bool ((a0.getD (x5 : Int).toNat default).fExport), .bool ((a0.getD (x5 : Int).toNat default).fReadonly)], .ptr false 0 0]) (d := .bool (vars_Get_1_i0 (a0.getD (x5 : Int).toNat default) b0 b1 (a0.getD (x5 : Int).toNat default))) (ow := []) (S1 := [.cells 9 [.str b0], .cells 26 [.str b1.fName, .str b1.fValue, .bool b1.fSet, .bool b1.fExport, .bool b1.fReadonly]]) (L1 := [.cells 26 [.str ((a0.getD (x5 : Int).toNat default).fName), .str ((a0.getD (x5 : Int).toNat default).fValue), .bool ((a0.getD (x5 : Int).toNat default).fSet), .bool ((a0.getD (x5 : Int).toNat default).fExport), .bool ((a0.getD (x5 : Int).toNat default).fReadonly)]]) (st' := ⟨sp [(1, .func (.func 31) [.ptr false 0 0]), (5, .int .i64 x5), (7, .slice 5 (a0.map encTVar)), (8, .int .i64 (a0.length : Int)), (9, .int .i64 x5), (14, .func (.func 31) [.ptr false 0 0]), (15, .agg [.str ((a0.getD (x5 : Int).toNat default).fName), .str ((a0.getD (x5 : Int).toNat default).fValue), .bool ((a0.getD (x5 : Int).toNat default).fSet), .bool ((a0.getD (x5 : Int).toNat default).fExport), .bool ((a0.getD (x5 : Int).toNat default).fReadonly)]), (16, .bool (vars_Get_1_i0 (a0.getD (x5 : Int).toNat default) b0 b1 (a0.getD (x5 : Int).toNat default)))] 0 19, [.cells 26 [.str ((a0.getD (x5 : Int).toNat default).fName), .str ((a0.getD (x5 : Int).toNat default).fValue), .bool ((a0.getD (x5 : Int).toNat default).fSet), .bool ((a0.getD (x5 : Int).toNat default).fExport), .bool ((a0.getD (x5 : Int).toNat default).fReadonly)]], [.cells 9 [.str b0], .cells 26 [.str b1.fName, .str b1.fValue, .bool b1.fSet, .bool b1.fExport, .bool b1.fReadonly]], []⟩) (by kernel_rfl) fk31 (by kernel_rfl) ⟨trivial, trivial⟩ (by kernel_rfl) (vars_Get_1_i0_ok (a0.getD (x5 : Int).toNat default) b0 b1 (a0.getD (x5 : Int).toNat default) (vars_Get_1_i0 (a0.getD (x5 : Int).toNat default) b0 b1 (a0.getD (x5 : Int).toNat default)) rfl) ⟨.inl rfl, ⟨.inl rfl, trivial⟩⟩ ⟨.inl rfl, trivial⟩ (by kernel_rfl) ?_
        refine AOps.done ?_
        refine AWp.cond (b := (vars_Get_1_i0 (a0.getD (x5 : Int).toNat default) b0 b1 (a0.getD (x5 : Int).toNat default))) (by kernel_rfl) trivial (fun c11 => ?_) (fun c11 => ?_)
        · have h := cond_t c11 h
          refine AWp.seqX [4] (tg := [4, 17]) (H := []) (st' := ⟨sp [(4, .int .i64 x5)] 0 19, [.cells 26 [.str ((a0.getD (x5 : Int).toNat default).fName), .str ((a0.getD (x5 : Int).toNat default).fValue), .bool ((a0.getD (x5 : Int).toNat default).fSet), .bool ((a0.getD (x5 : Int).toNat default).fExport), .bool ((a0.getD (x5 : Int).toNat default).fReadonly)]], [.cells 9 [.str b0], .cells 26 [.str b1.fName, .str b1.fValue, .bool b1.fSet, .bool b1.fExport, .bool b1.fReadonly]], []⟩) (ob := (True ∧ (True ∧ True))) (by kernel_rfl) ⟨trivial, ⟨trivial, trivial⟩⟩ ?_
          refine AWp.ret ?_
          have h := jk_some h k4
          obtain rfl := Option.some.inj h
          exact ⟨[.int .i64 x5], (True ∧ True), by kernel_rfl, ⟨trivial, trivial⟩, by kernel_rfl, ⟨rfl, rfl, rfl⟩⟩
        · have h := cond_f c11 h
          refine AWp.skip ?_
          refine AWp.tailN [1, 7, 8, 9] [] (tg := []) (H := []) (st' := ⟨sp [(1, .func (.func 31) [.ptr false 0 0]), (7, .slice 5 (a0.map encTVar)), (8, .int .i64 (a0.length : Int)), (9, .int .i64 (IntKind.i64.wrap (x5 + 1)))] 0 19, [.cells 26 [.str ((a0.getD (x5 : Int).toNat default).fName), .str ((a0.getD (x5 : Int).toNat default).fValue), .bool ((a0.getD (x5 : Int).toNat default).fSet), .bool ((a0.getD (x5 : Int).toNat default).fExport), .bool ((a0.getD (x5 : Int).toNat default).fReadonly)]], [.cells 9 [.str b0], .cells 26 [.str b1.fName, .str b1.fValue, .bool b1.fSet, .bool b1.fExport, .bool b1.fReadonly]], []⟩) (ob := ((True ∧ (True ∧ (IntKind.i64 = IntKind.i64))) ∧ (True ∧ True))) (by kernel_rfl) ⟨⟨trivial, ⟨trivial, rfl⟩⟩, ⟨trivial, trivial⟩⟩ ?_
          exact ⟨⟨(n6, IntKind.i64.wrap (x5 + 1)), h⟩, Nat.lt_succ_self _, ⟨⟨.inl rfl, ⟨.inr ⟨rfl, rfl⟩, ⟨.inl rfl, ⟨.inl rfl, ⟨.inl rfl, ⟨.inl rfl, ⟨.inl rfl, ⟨.inr ⟨rfl, rfl⟩, ⟨.inr ⟨rfl, rfl⟩, ⟨.inr ⟨rfl, rfl⟩, ⟨.inl rfl, ⟨.inl rfl, ⟨.inl rfl, ⟨.inl rfl, ⟨.inl rfl, ⟨.inl rfl, ⟨.inl rfl, ⟨.inl rfl, ⟨.inl rfl, trivial⟩⟩⟩⟩⟩⟩⟩⟩⟩⟩⟩⟩⟩⟩⟩⟩⟩⟩⟩, rfl, rfl, rfl, ⟨_, .slnil, (.refl _)⟩, rfl⟩⟩
      · have h := cond_f c7 h
        refine AWp.exit ?_
        obtain rfl := Option.some.inj h
        exact ⟨_, rfl, ⟨⟨.inl rfl, ⟨.inl rfl, ⟨.inl rfl, ⟨.inl rfl, ⟨.inl rfl, ⟨.inl rfl, ⟨.inl rfl, ⟨.inl rfl, ⟨.inl rfl, ⟨.inl rfl, ⟨.inl rfl, ⟨.inl rfl, ⟨.inl rfl, ⟨.inl rfl, ⟨.inl rfl, ⟨.inl rfl, ⟨.inl rfl, ⟨.inl rfl, ⟨.inl rfl, trivial⟩⟩⟩⟩⟩⟩⟩⟩⟩⟩⟩⟩⟩⟩⟩⟩⟩⟩⟩, rfl, rfl, rfl, ⟨_, .slnil, (.refl _)⟩, rfl⟩⟩
  · intro s1 s1h
    have h := jk_go s1h k4
    refine AWp.seqX [4] (tg := []) (H := []) (st' := ⟨sp [(4, .int .i64 (-1))] 0 19, [], [.cells 9 [.str b0], .cells 26 [.str b1.fName, .str b1.fValue, .bool b1.fSet, .bool b1.fExport, .bool b1.fReadonly]], []⟩) (ob := (True ∧ True)) (by kernel_rfl) ⟨trivial, trivial⟩ ?_
    refine AWp.ret ?_
    obtain rfl := Option.some.inj h
    exact ⟨[.int .i64 (-1)], (True ∧ True), by kernel_rfl, ⟨trivial, trivial⟩, by kernel_rfl, ⟨rfl, rfl, rfl⟩⟩
def vars_Get (fuel : Nat) (a0 : List TVar) (a1 : List UInt8) : Option (TVar × Bool) :=
  (vars_find_i0 fuel a0 a1 (TVar.mk [] [] false false false)).bind (fun r1 =>
    cond (decide (0 ≤ r1)) (
      req (((0 : Int) ≤ r1) ∧ (r1 < (a0.length : Int))) (
        some ((a0.getD (r1 : Int).toNat default), true))) (
      some ((TVar.mk [] [] false false false), false)))
theorem vars_Get_ok (fuel : Nat) (a0 : List TVar) (a1 : List UInt8) (r : TVar × Bool) (h : vars_Get fuel a0 a1 = some r) : ACalls Try.prog 12 [.slice 5 (a0.map encTVar), .str a1] [] (fun q => q = ⟨.tuple [.agg [.str r.1.fName, .str r.1.fValue, .bool r.1.fSet, .bool r.1.fExport, .bool r.1.fReadonly], .bool r.2], [], [], []⟩) := by
  unfold vars_Get at h
  refine ACalls.noown ?_
  refine ACalls.intro (fn := Try.f12) Try.func12 rfl ?_
  refine AWp.keep [0, 1] (st' := ⟨sp [(0, .slice 5 (a0.map encTVar)), (1, .str a1)] 0 17, [], [], []⟩) (by kernel_rfl) ?_
  refine AWp.seqX [0, 3, 4] (tg := []) (H := []) (st' := ⟨sp [(0, .slice 5 (a0.map encTVar)), (3, .ptr true 0 0), (4, .ptr true 1 0)] 0 17, [.cells 9 [.str a1], .cells 26 [.str [], .str [], .bool false, .bool false, .bool false]], [], []⟩) (ob := ((True ∧ (true = true)) ∧ ((true = true) ∧ (True ∧ True)))) (by kernel_rfl) ⟨⟨trivial, rfl⟩, ⟨rfl, ⟨trivial, trivial⟩⟩⟩ ?_
  refine AWp.seq ?_
  refine AWp.seqO ?_
  refine AOps.runK [0, 4, 7, 8] 2 (tg := [6, 9]) (H := []) (st' := ⟨sp [(0, .slice 5 (a0.map encTVar)), (4, .ptr true 1 0), (7, .slice 5 (a0.map encTVar)), (8, .func (.func 31) [.ptr true 0 0])] 0 17, [.cells 9 [.str a1], .cells 26 [.str [], .str [], .bool false, .bool false, .bool false]], [], []⟩) (ob := (True ∧ (True ∧ True))) (by kernel_rfl) ⟨trivial, ⟨trivial, trivial⟩⟩ ?_
  obtain ⟨r1, e2, h⟩ := bind_some h
  refine AOps.ccall (caps := []) (ds := [.slice 5 (a0.map encTVar), .func (.func 31) [.ptr false 0 0]]) (d := .int .i64 r1) (ow := []) (S1 := []) (L1 := [.cells 9 [.str a1], .cells 26 [.str [], .str [], .bool false, .bool false, .bool false]]) (st' := ⟨sp [(0, .slice 5 (a0.map encTVar)), (4, .ptr true 1 0), (7, .slice 5 (a0.map encTVar)), (8, .func (.func 31) [.ptr true 0 0]), (9, .int .i64 r1)] 0 17, [.cells 9 [.str a1], .cells 26 [.str [], .str [], .bool false, .bool false, .bool false]], [], []⟩) (by kernel_rfl) fk30 (by kernel_rfl) ⟨trivial, ⟨trivial, trivial⟩⟩ (by kernel_rfl) (vars_find_i0_ok fuel a0 a1 (TVar.mk [] [] false false false) r1 e2) trivial ⟨.inl rfl, ⟨.inl rfl, trivial⟩⟩ (by kernel_rfl) ?_
  refine AOps.runK [0, 4, 6] 1 (tg := [6, 9]) (H := []) (st' := ⟨sp [(0, .slice 5 (a0.map encTVar)), (4, .ptr true 1 0), (6, .int .i64 r1)] 0 17, [.cells 9 [.str a1], .cells 26 [.str [], .str [], .bool false, .bool false, .bool false]], [], []⟩) (ob := (True ∧ True)) (by kernel_rfl) ⟨trivial, trivial⟩ ?_
  refine AOps.done ?_
  refine AWp.seqX [0, 4, 6, 11] (tg := []) (H := []) (st' := ⟨sp [(0, .slice 5 (a0.map encTVar)), (4, .ptr true 1 0), (6, .int .i64 r1), (11, .bool (decide (0 ≤ r1)))] 0 17, [.cells 9 [.str a1], .cells 26 [.str [], .str [], .bool false, .bool false, .bool false]], [], []⟩) (ob := (True ∧ ((True ∧ (True ∧ (IntKind.i64 = IntKind.i64))) ∧ True))) (by kernel_rfl) ⟨trivial, ⟨⟨trivial, ⟨trivial, rfl⟩⟩, trivial⟩⟩ ?_
  refine AWp.cond (b := decide (0 ≤ r1)) (by kernel_rfl) trivial (fun c3 => ?_) (fun c3 => ?_)
  · have h := cond_t c3 h
    obtain ⟨⟨o4, o5⟩, h⟩ := req_some h
    refine AWp.seqX [4, 5] (tg := [15]) (H := [(14, .cptr [.str ((a0.getD (r1 : Int).toNat default).fName), .str ((a0.getD (r1 : Int).toNat default).fValue), .bool ((a0.getD (r1 : Int).toNat default).fSet), .bool ((a0.getD (r1 : Int).toNat default).fExport), .bool ((a0.getD (r1 : Int).toNat default).fReadonly)] 0)]) (st' := ⟨sp [(4, .ptr true 1 0), (5, .bool true)] 0 17, [.cells 9 [.str a1], .cells 26 [.str ((a0.getD (r1 : Int).toNat default).fName), .str ((a0.getD (r1 : Int).toNat default).fValue), .bool ((a0.getD (r1 : Int).toNat default).fSet), .bool ((a0.getD (r1 : Int).toNat default).fExport), .bool ((a0.getD (r1 : Int).toNat default).fReadonly)]], [], []⟩) (ob := (True ∧ (True ∧ (((True ∧ (True ∧ (((0 : Int) ≤ r1) ∧ ((r1 < ((a0.map encTVar).length : Int)) ∧ (5 = 5))))) ∧ ((.cptr ((a0.map encTVar).getD (r1 : Int).toNat []) 0 : DV) = .cptr [.str ((a0.getD (r1 : Int).toNat default).fName), .str ((a0.getD (r1 : Int).toNat default).fValue), .bool ((a0.getD (r1 : Int).toNat default).fSet), .bool ((a0.getD (r1 : Int).toNat default).fExport), .bool ((a0.getD (r1 : Int).toNat default).fReadonly)] 0)) ∧ ((True ∧ (0 + 5 ≤ 5)) ∧ ((True ∧ (True ∧ ((true = true) ∧ (0 + 5 ≤ 5)))) ∧ (True ∧ True))))))) (by kernel_rfl) ⟨trivial, ⟨trivial, ⟨⟨⟨trivial, ⟨trivial, ⟨o4, ⟨(lt_map o5), rfl⟩⟩⟩⟩, (congrArg (fun c => DV.cptr c 0) (getD_encI encTVar a0 (r1 : Int) o4 o5))⟩, ⟨⟨trivial, (by decide)⟩, ⟨⟨trivial, ⟨trivial, ⟨rfl, (by decide)⟩⟩⟩, ⟨trivial, trivial⟩⟩⟩⟩⟩⟩ ?_
    refine AWp.ret ?_
    obtain rfl := Option.some.inj h
    exact ⟨[.agg [.str ((a0.getD (r1 : Int).toNat default).fName), .str ((a0.getD (r1 : Int).toNat default).fValue), .bool ((a0.getD (r1 : Int).toNat default).fSet), .bool ((a0.getD (r1 : Int).toNat default).fExport), .bool ((a0.getD (r1 : Int).toNat default).fReadonly)], .bool true], ((0 + 5 ≤ 5) ∧ (True ∧ True)), by kernel_rfl, ⟨(by decide), ⟨trivial, trivial⟩⟩, by kernel_rfl, ⟨rfl, rfl, rfl⟩⟩
  · have h := cond_f c3 h
    refine AWp.skip ?_
    refine AWp.seqX [4, 5] (tg := [16]) (H := []) (st' := ⟨sp [(4, .ptr true 1 0), (5, .bool false)] 0 17, [.cells 9 [.str a1], .cells 26 [.str [], .str [], .bool false, .bool false, .bool false]], [], []⟩) (ob := ((true = true) ∧ ((True ∧ (True ∧ ((true = true) ∧ (0 + 5 ≤ 5)))) ∧ (True ∧ True)))) (by kernel_rfl) ⟨rfl, ⟨⟨trivial, ⟨trivial, ⟨rfl, (by decide)⟩⟩⟩, ⟨trivial, trivial⟩⟩⟩ ?_
    refine AWp.ret ?_
    obtain rfl := Option.some.inj h
    exact ⟨[.agg [.str [], .str [], .bool false, .bool false, .bool false], .bool false], ((0 + 5 ≤ 5) ∧ (True ∧ True)), by kernel_rfl, ⟨(by decide), ⟨trivial, trivial⟩⟩, by kernel_rfl, ⟨rfl, rfl, rfl⟩⟩
def vars_place_1_i0 (a0 : TVar) (b0 : List UInt8) (b1 : TVar) : Bool :=
  a0.fName == b0
theorem vars_place_1_i0_ok (a0 : TVar) (b0 : List UInt8) (b1 : TVar) (r : Bool) (h : vars_place_1_i0 a0 b0 b1 = r) : ACalls Try.prog 45 [.agg [.str a0.fName, .str a0.fValue, .bool a0.fSet, .bool a0.fExport, .bool a0.fReadonly], .ptr false 0 0] [.cells 9 [.str b0], .cells 26 [.str b1.fName, .str b1.fValue, .bool b1.fSet, .bool b1.fExport, .bool b1.fReadonly]] (fun q => q = ⟨.bool r, [.cells 9 [.str b0], .cells 26 [.str b1.fName, .str b1.fValue, .bool b1.fSet, .bool b1.fExport, .bool b1.fReadonly]], [], []⟩) := by
  unfold vars_place_1_i0 at h
  refine ACalls.noown ?_
  refine ACalls.intro (fn := Try.f45) Try.func45 rfl ?_
  refine AWp.keep [0, 1] (st' := ⟨sp [(0, .agg [.str a0.fName, .str a0.fValue, .bool a0.fSet, .bool a0.fExport, .bool a0.fReadonly]), (1, .ptr false 0 0)] 0 8, [], [.cells 9 [.str b0], .cells 26 [.str b1.fName, .str b1.fValue, .bool b1.fSet, .bool b1.fExport, .bool b1.fReadonly]], []⟩) (by kernel_rfl) ?_
  refine AWp.seqX [1, 2] (tg := []) (H := []) (st' := ⟨sp [(1, .ptr false 0 0), (2, .ptr true 0 0)] 0 8, [.cells 26 [.str a0.fName, .str a0.fValue, .bool a0.fSet, .bool a0.fExport, .bool a0.fReadonly]], [.cells 9 [.str b0], .cells 26 [.str b1.fName, .str b1.fValue, .bool b1.fSet, .bool b1.fExport, .bool b1.fReadonly]], []⟩) (ob := ((True ∧ (true = true)) ∧ (True ∧ True))) (by kernel_rfl) ⟨⟨trivial, rfl⟩, ⟨trivial, trivial⟩⟩ ?_
  refine AWp.seqX [3] (tg := [3, 7]) (H := []) (st' := ⟨sp [(3, .bool (a0.fName == b0))] 0 8, [.cells 26 [.str a0.fName, .str a0.fValue, .bool a0.fSet, .bool a0.fExport, .bool a0.fReadonly]], [.cells 9 [.str b0], .cells 26 [.str b1.fName, .str b1.fValue, .bool b1.fSet, .bool b1.fExport, .bool b1.fReadonly]], []⟩) (ob := ((True ∧ (1 ≠ 0)) ∧ ((True ∧ (0 < 5)) ∧ ((True ∧ (0 < 1)) ∧ ((True ∧ (True ∧ True)) ∧ (True ∧ True)))))) (by kernel_rfl) ⟨⟨trivial, (by decide)⟩, ⟨⟨trivial, (by decide)⟩, ⟨⟨trivial, (by decide)⟩, ⟨⟨trivial, ⟨trivial, trivial⟩⟩, ⟨trivial, trivial⟩⟩⟩⟩⟩ ?_
  refine AWp.ret ?_
  obtain rfl := h
  exact ⟨[.bool (a0.fName == b0)], (True ∧ True), by kernel_rfl, ⟨trivial, trivial⟩, by kernel_rfl, ⟨rfl, rfl, rfl⟩⟩
def vars_find_i1_l0_b (a0 : List TVar) (b0 : List UInt8) (n6 : Nat) (recvars_find_i1_l0 : Int → Option (J Unit Int)) (x5 : Int) : Option (J Unit Int) :=
  cond (decide (x5 < (a0.length : Int))) (
    req (((0 : Int) ≤ x5) ∧ (x5 < (a0.length : Int))) (
      cond (vars_place_1_i0 (a0.getD (x5 : Int).toNat default) b0 (a0.getD (x5 : Int).toNat default)) (
        some (J.ret x5)) (
        recvars_find_i1_l0 (IntKind.i64.wrap (x5 + 1))))) (
    some (J.go ()))
def vars_find_i1_l0 (a0 : List TVar) (b0 : List UInt8) : Nat → Int → Option (J Unit Int)
  | 0, _ => none
  | n + 1, x => vars_find_i1_l0_b a0 b0 n (vars_find_i1_l0 a0 b0 n) x
def vars_find_i1 (fuel : Nat) (a0 : List TVar) (b0 : List UInt8) : Option Int :=
  jn (vars_find_i1_l0 a0 b0 fuel (0 : Int)) (fun s1 =>
    some (-1))
theorem vars_find_i1_ok (fuel : Nat) (a0 : List TVar) (b0 : List UInt8) (r : Int) (h : vars_find_i1 fuel a0 b0 = some r) : ACalls Try.prog 30 [.slice 5 (a0.map encTVar), .func (.func 45) [.ptr false 0 0]] [.cells 9 [.str b0]] (fun q => q = ⟨.int .i64 r, [.cells 9 [.str b0]], [], []⟩) := by
  unfold vars_find_i1 at h
  refine ACalls.noown ?_
  refine ACalls.intro (fn := Try.f30) Try.func30 rfl ?_
  refine AWp.keep [0, 1] (st' := ⟨sp [(0, .slice 5 (a0.map encTVar)), (1, .func (.func 45) [.ptr false 0 0])] 0 19, [], [.cells 9 [.str b0]], []⟩) (by kernel_rfl) ?_
  refine AWp.seqX [0, 1] (tg := []) (H := []) (st' := ⟨sp [(0, .slice 5 (a0.map encTVar)), (1, .func (.func 45) [.ptr false 0 0])] 0 19, [], [.cells 9 [.str b0]], []⟩) (ob := (True ∧ True)) (by kernel_rfl) ⟨trivial, trivial⟩ ?_
  obtain ⟨j3, e2, k4⟩ := jn_some h
  refine AWp.seqSum (σ := Unit) (fun s1 => ⟨sp [] 0 19, [], [.cells 9 [.str b0]], []⟩) (fun s1 => j3 = .go s1) ?_ ?_
  ·
    refine AWp.seqX [1, 7, 8, 9] (tg := []) (H := [(8, .int .i64 (a0.length : Int))]) (st' := ⟨sp [(1, .func (.func 45) [.ptr false 0 0]), (7, .slice 5 (a0.map encTVar)), (8, .int .i64 (a0.length : Int)), (9, .int .i64 0)] 0 19, [], [.cells 9 [.str b0]], []⟩) (ob := (True ∧ (((True ∧ True) ∧ ((.int .i64 ((a0.map encTVar).length : Int) : DV) = .int .i64 (a0.length : Int))) ∧ (True ∧ True)))) (by kernel_rfl) ⟨trivial, ⟨⟨⟨trivial, trivial⟩, (congrArg (fun n : Nat => DV.int .i64 n) (List.length_map _))⟩, ⟨trivial, trivial⟩⟩⟩ ?_
    refine AWp.block ?_
    refine AWp.loop (ι := {p : Nat × (Int) // vars_find_i1_l0 a0 b0 p.1 p.2 = some _}) (fun p => ⟨sp [(1, .func (.func 45) [.ptr false 0 0]), (7, .slice 5 (a0.map encTVar)), (8, .int .i64 (a0.length : Int)), (9, .int .i64 p.1.2)] 0 19, [], [.cells 9 [.str b0]], []⟩) (fun p => p.1.1) ⟨(fuel, (0 : Int)), e2⟩ ⟨⟨.inl rfl, ⟨.inr ⟨rfl, rfl⟩, ⟨.inl rfl, ⟨.inl rfl, ⟨.inl rfl, ⟨.inl rfl, ⟨.inl rfl, ⟨.inr ⟨rfl, rfl⟩, ⟨.inr ⟨rfl, rfl⟩, ⟨.inr ⟨rfl, rfl⟩, ⟨.inl rfl, ⟨.inl rfl, ⟨.inl rfl, ⟨.inl rfl, ⟨.inl rfl, ⟨.inl rfl, ⟨.inl rfl, ⟨.inl rfl, ⟨.inl rfl, trivial⟩⟩⟩⟩⟩⟩⟩⟩⟩⟩⟩⟩⟩⟩⟩⟩⟩⟩⟩, rfl, rfl, rfl, ⟨_, .slnil, (.refl _)⟩, rfl⟩ ?_
    rintro ⟨⟨n6, x5⟩, h⟩
    cases n6 with
    | zero => cases h
    | succ n6 =>
      replace h : vars_find_i1_l0_b a0 b0 n6 (vars_find_i1_l0 a0 b0 n6) x5 = some _ := h
      unfold vars_find_i1_l0_b at h
      refine AWp.seqX [1, 7, 8, 9, 10] (tg := []) (H := []) (st' := ⟨sp [(1, .func (.func 45) [.ptr false 0 0]), (7, .slice 5 (a0.map encTVar)), (8, .int .i64 (a0.length : Int)), (9, .int .i64 x5), (10, .bool (decide (x5 < (a0.length : Int))))] 0 19, [], [.cells 9 [.str b0]], []⟩) (ob := ((True ∧ (True ∧ (IntKind.i64 = IntKind.i64))) ∧ True)) (by kernel_rfl) ⟨⟨trivial, ⟨trivial, rfl⟩⟩, trivial⟩ ?_
      refine AWp.seq ?_
      refine AWp.cond (b := decide (x5 < (a0.length : Int))) (by kernel_rfl) trivial (fun c7 => ?_) (fun c7 => ?_)
      · have h := cond_t c7 h
        refine AWp.skip ?_
        refine AWp.seq ?_
        refine AWp.block ?_
        obtain ⟨⟨o8, o9⟩, h⟩ := req_some h
        refine AWp.seqX [1, 5, 6, 7, 8, 9] (tg := [5, 11, 13]) (H := [(12, .cptr [.str ((a0.getD (x5 : Int).toNat default).fName), .str ((a0.getD (x5 : Int).toNat default).fValue), .bool ((a0.getD (x5 : Int).toNat default).fSet), .bool ((a0.getD (x5 : Int).toNat default).fExport), .bool ((a0.getD (x5 : Int).toNat default).fReadonly)] 0)]) (st' := ⟨sp [(1, .func (.func 45) [.ptr false 0 0]), (5, .int .i64 x5), (6, .ptr true 0 0), (7, .slice 5 (a0.map encTVar)), (8, .int .i64 (a0.length : Int)), (9, .int .i64 x5)] 0 19, [.cells 26 [.str ((a0.getD (x5 : Int).toNat default).fName), .str ((a0.getD (x5 : Int).toNat default).fValue), .bool ((a0.getD (x5 : Int).toNat default).fSet), .bool ((a0.getD (x5 : Int).toNat default).fExport), .bool ((a0.getD (x5 : Int).toNat default).fReadonly)]], [.cells 9 [.str b0]], []⟩) (ob := (True ∧ (((True ∧ (True ∧ (((0 : Int) ≤ x5) ∧ ((x5 < ((a0.map encTVar).length : Int)) ∧ (5 = 5))))) ∧ ((.cptr ((a0.map encTVar).getD (x5 : Int).toNat []) 0 : DV) = .cptr [.str ((a0.getD (x5 : Int).toNat default).fName), .str ((a0.getD (x5 : Int).toNat default).fValue), .bool ((a0.getD (x5 : Int).toNat default).fSet), .bool ((a0.getD (x5 : Int).toNat default).fExport), .bool ((a0.getD (x5 : Int).toNat default).fReadonly)] 0)) ∧ ((True ∧ (0 + 5 ≤ 5)) ∧ ((true = true) ∧ (True ∧ ((True ∧ (True ∧ ((true = true) ∧ (0 + 5 ≤ 5)))) ∧ True))))))) (by kernel_rfl) ⟨trivial, ⟨⟨⟨trivial, ⟨trivial, ⟨o8, ⟨(lt_map o9), rfl⟩⟩⟩⟩, (congrArg (fun c => DV.cptr c 0) (getD_encI encTVar a0 (x5 : Int) o8 o9))⟩, ⟨⟨trivial, (by decide)⟩, ⟨rfl, ⟨trivial, ⟨⟨trivial, ⟨trivial, ⟨rfl, (by decide)⟩⟩⟩, trivial⟩⟩⟩⟩⟩⟩ ?_
        refine AWp.seqO ?_
        refine AOps.runK [1, 5, 7, 8, 9, 14, 15] 2 (tg := []) (H := []) (st' := ⟨sp [(1, .func (.func 45) [.ptr false 0 0]), (5, .int .i64 x5), (7, .slice 5 (a0.map encTVar)), (8, .int .i64 (a0.length : Int)), (9, .int .i64 x5), (14, .func (.func 45) [.ptr false 0 0]), (15, .agg [.str ((a0.getD (x5 : Int).toNat default).fName), .str ((a0.getD (x5 : Int).toNat default).fValue), .bool ((a0.getD (x5 : Int).toNat default).fSet), .bool ((a0.getD (x5 : Int).toNat default).fExport), .bool ((a0.getD (x5 : Int).toNat default).fReadonly)])] 0 19, [.cells 26 [.str ((a0.getD (x5 : Int).toNat default).fName), .str ((a0.getD (x5 : Int).toNat default).fValue), .bool ((a0.getD (x5 : Int).toNat default).fSet), .bool ((a0.getD (x5 : Int).toNat default).fExport), .bool ((a0.getD (x5 : Int).toNat default).fReadonly)]], [.cells 9 [.str b0]], []⟩) (ob := (True ∧ ((True ∧ (0 + 5 ≤ 5)) ∧ True))) (by kernel_rfl) ⟨trivial, ⟨⟨trivial, (by decide)⟩, trivial⟩⟩ ?_
        refine AOps.ccall (caps := [.ptr false 0 0]) (ds := [.agg [.str ((a0.getD (x5 : Int).toNat default).fName), .str ((a0.getD (x5 : Int).toNat default).fValue), .bool ((a0.getD (x5 : Int).toNat default).fSet), .bool ((a0.getD (x5 : Int).toNat default).fExport), .bool ((a0.getD (x5 : Int).toNat default).fReadonly)], .ptr false 0 0]) (d := .bool (vars_place_1_i0 (a0.getD (x5 : Int).toNat default) b0 (a0.getD (x5 : Int).toNat default))) (ow := []) (S1 := [.cells 9 [.str b0]]) (L1 := [.cells 26 [.str ((a0.getD (x5 : Int).toNat default).fName), .str ((a0.getD (x5 : Int).toNat default).fValue), .bool ((a0.getD (x5 : Int).toNat default).fSet), .bool ((a0.getD (x5 : Int).toNat default).fExport), .bool ((a0.getD (x5 : Int).toNat default).fReadonly)]]) (st' := ⟨sp [(1, .func (.func 45) [.ptr false 0 0]), (5, .int .i64 x5), (7, .slice 5 (a0.map encTVar)), (8, .int .i64 (a0.length : Int)), (9, .int .i64 x5), (14, .func (.func 45) [.ptr false 0 0]), (15, .agg [.str ((a0.getD (x5 : Int).toNat default).fName), .str ((a0.getD (x5 : Int).toNat default).fValue), .bool ((a0.getD (x5 : Int).toNat default).fSet), .bool ((a0.getD (x5 : Int).toNat default).fExport), .bool ((a0.getD (x5 : Int).toNat default).fReadonly)]), (16, .bool (vars_place_1_i0 (a0.getD (x5 : Int).toNat default) b0 (a0.getD (x5 : Int).toNat default)))] 0 19, [.cells 26 [.str ((a0.getD (x5 : Int).toNat default).fName), .str ((a0.getD (x5 : Int).toNat default).fValue), .bool ((a0.getD (x5 : Int).toNat default).fSet), .bool ((a0.getD (x5 : Int).toNat default).fExport), .bool ((a0.getD (x5 : Int).toNat default).fReadonly)]], [.cells 9 [.str b0]], []⟩) (by kernel_rfl) fk45 (by kernel_rfl) ⟨trivial, trivial⟩ (by kernel_rfl) (vars_place_1_i0_ok (a0.getD (x5 : Int).toNat default) b0 (a0.getD (x5 : Int).toNat default) (vars_place_1_i0 (a0.getD (x5 : Int).toNat default) b0 (a0.getD (x5 : Int).toNat default)) rfl) ⟨.inl rfl, trivial⟩ ⟨.inl rfl, trivial⟩ (by kernel_rfl) ?_
        refine AOps.done ?_
        refine AWp.cond (b := (vars_place_1_i0 (a0.getD (x5 : Int).toNat default) b0 (a0.getD (x5 : Int).toNat default))) (by kernel_rfl) trivial (fun c11 => ?_) (fun c11 => ?_)
        · have h := cond_t c11 h
          refine AWp.seqX [4] (tg := [4, 17]) (H := []) (st' := ⟨sp [(4, .int .i64 x5)] 0 19, [.cells 26 [.str ((a0.getD (x5 : Int).toNat default).fName), .str ((a0.getD (x5 : Int).toNat default).fValue), .bool ((a0.getD (x5 : Int).toNat default).fSet), .bool ((a0.getD (x5 : Int).toNat default).fExport), .bool ((a0.getD (x5 : Int).toNat default).fReadonly)]], [.cells 9 [.str b0]], []⟩) (ob := (True ∧ (True ∧ True))) (by kernel_rfl) ⟨trivial, ⟨trivial, trivial⟩⟩ ?_
          refine AWp.ret ?_
          have h := jk_some h k4
          obtain rfl := Option.some.inj h
          exact ⟨[.int .i64 x5], (True ∧ True), by kernel_rfl, ⟨trivial, trivial⟩, by kernel_rfl, ⟨rfl, rfl, rfl⟩⟩
        · have h := cond_f c11 h
          refine AWp.skip ?_
          refine AWp.tailN [1, 7, 8, 9] [] (tg := []) (H := []) (st' := ⟨sp [(1, .func (.func 45) [.ptr false 0 0]), (7, .slice 5 (a0.map encTVar)), (8, .int .i64 (a0.length : Int)), (9, .int .i64 (IntKind.i64.wrap (x5 + 1)))] 0 19, [.cells 26 [.str ((a0.getD (x5 : Int).toNat default).fName), .str ((a0.getD (x5 : Int).toNat default).fValue), .bool ((a0.getD (x5 : Int).toNat default).fSet), .bool ((a0.getD (x5 : Int).toNat default).fExport), .bool ((a0.getD (x5 : Int).toNat default).fReadonly)]], [.cells 9 [.str b0]], []⟩) (ob := ((True ∧ (True ∧ (IntKind.i64 = IntKind.i64))) ∧ (True ∧ True))) (by kernel_rfl) ⟨⟨trivial, ⟨trivial, rfl⟩⟩, ⟨trivial, trivial⟩⟩ ?_
          exact ⟨⟨(n6, IntKind.i64.wrap (x5 + 1)), h⟩, Nat.lt_succ_self _, ⟨⟨.inl rfl, ⟨.inr ⟨rfl, rfl⟩, ⟨.inl rfl, ⟨.inl rfl, ⟨.inl rfl, ⟨.inl rfl, ⟨.inl rfl, ⟨.inr ⟨rfl, rfl⟩, ⟨.inr ⟨rfl, rfl⟩, ⟨.inr ⟨rfl, rfl⟩, ⟨.inl rfl, ⟨.inl rfl, ⟨.inl rfl, ⟨.inl rfl, ⟨.inl rfl, ⟨.inl rfl, ⟨.inl rfl, ⟨.inl rfl, ⟨.inl rfl, trivial⟩⟩⟩⟩⟩⟩⟩⟩⟩⟩⟩⟩⟩⟩⟩⟩⟩⟩⟩, rfl, rfl, rfl, ⟨_, .slnil, (.refl _)⟩, rfl⟩⟩
      · have h := cond_f c7 h
        refine AWp.exit ?_
        obtain rfl := Option.some.inj h
        exact ⟨_, rfl, ⟨⟨.inl rfl, ⟨.inl rfl, ⟨.inl rfl, ⟨.inl rfl, ⟨.inl rfl, ⟨.inl rfl, ⟨.inl rfl, ⟨.inl rfl, ⟨.inl rfl, ⟨.inl rfl, ⟨.inl rfl, ⟨.inl rfl, ⟨.inl rfl, ⟨.inl rfl, ⟨.inl rfl, ⟨.inl rfl, ⟨.inl rfl, ⟨.inl rfl, ⟨.inl rfl, trivial⟩⟩⟩⟩⟩⟩⟩⟩⟩⟩⟩⟩⟩⟩⟩⟩⟩⟩⟩, rfl, rfl, rfl, ⟨_, .slnil, (.refl _)⟩, rfl⟩⟩
  · intro s1 s1h
    have h := jk_go s1h k4
    refine AWp.seqX [4] (tg := []) (H := []) (st' := ⟨sp [(4, .int .i64 (-1))] 0 19, [], [.cells 9 [.str b0]], []⟩) (ob := (True ∧ True)) (by kernel_rfl) ⟨trivial, trivial⟩ ?_
    refine AWp.ret ?_
    obtain rfl := Option.some.inj h
    exact ⟨[.int .i64 (-1)], (True ∧ True), by kernel_rfl, ⟨trivial, trivial⟩, by kernel_rfl, ⟨rfl, rfl, rfl⟩⟩
def vars_place_2_i0 (a0 : TVar) (b0 : List UInt8) (b1 : TVar) : Bool :=
  !(Op.bytesLess a0.fName b0 || a0.fName == b0)
theorem vars_place_2_i0_ok (a0 : TVar) (b0 : List UInt8) (b1 : TVar) (r : Bool) (h : vars_place_2_i0 a0 b0 b1 = r) : ACalls Try.prog 46 [.agg [.str a0.fName, .str a0.fValue, .bool a0.fSet, .bool a0.fExport, .bool a0.fReadonly], .ptr false 0 0] [.cells 9 [.str b0], .cells 26 [.str b1.fName, .str b1.fValue, .bool b1.fSet, .bool b1.fExport, .bool b1.fReadonly]] (fun q => q = ⟨.bool r, [.cells 9 [.str b0], .cells 26 [.str b1.fName, .str b1.fValue, .bool b1.fSet, .bool b1.fExport, .bool b1.fReadonly]], [], []⟩) := by
  unfold vars_place_2_i0 at h
  refine ACalls.noown ?_
  refine ACalls.intro (fn := Try.f46) Try.func46 rfl ?_
  refine AWp.keep [0, 1] (st' := ⟨sp [(0, .agg [.str a0.fName, .str a0.fValue, .bool a0.fSet, .bool a0.fExport, .bool a0.fReadonly]), (1, .ptr false 0 0)] 0 8, [], [.cells 9 [.str b0], .cells 26 [.str b1.fName, .str b1.fValue, .bool b1.fSet, .bool b1.fExport, .bool b1.fReadonly]], []⟩) (by kernel_rfl) ?_
  refine AWp.seqX [1, 2] (tg := []) (H := []) (st' := ⟨sp [(1, .ptr false 0 0), (2, .ptr true 0 0)] 0 8, [.cells 26 [.str a0.fName, .str a0.fValue, .bool a0.fSet, .bool a0.fExport, .bool a0.fReadonly]], [.cells 9 [.str b0], .cells 26 [.str b1.fName, .str b1.fValue, .bool b1.fSet, .bool b1.fExport, .bool b1.fReadonly]], []⟩) (ob := ((True ∧ (true = true)) ∧ (True ∧ True))) (by kernel_rfl) ⟨⟨trivial, rfl⟩, ⟨trivial, trivial⟩⟩ ?_
  refine AWp.seqX [3] (tg := [3, 7]) (H := []) (st' := ⟨sp [(3, .bool (!(Op.bytesLess a0.fName b0 || a0.fName == b0)))] 0 8, [.cells 26 [.str a0.fName, .str a0.fValue, .bool a0.fSet, .bool a0.fExport, .bool a0.fReadonly]], [.cells 9 [.str b0], .cells 26 [.str b1.fName, .str b1.fValue, .bool b1.fSet, .bool b1.fExport, .bool b1.fReadonly]], []⟩) (ob := ((True ∧ (1 ≠ 0)) ∧ ((True ∧ (0 < 5)) ∧ ((True ∧ (0 < 1)) ∧ ((True ∧ (True ∧ True)) ∧ (True ∧ True)))))) (by kernel_rfl) ⟨⟨trivial, (by decide)⟩, ⟨⟨trivial, (by decide)⟩, ⟨⟨trivial, (by decide)⟩, ⟨⟨trivial, ⟨trivial, trivial⟩⟩, ⟨trivial, trivial⟩⟩⟩⟩⟩ ?_
  refine AWp.ret ?_
  obtain rfl := h
  exact ⟨[.bool (!(Op.bytesLess a0.fName b0 || a0.fName == b0))], (True ∧ True), by kernel_rfl, ⟨trivial, trivial⟩, by kernel_rfl, ⟨rfl, rfl, rfl⟩⟩
def vars_find_i2_l0_b (a0 : List TVar) (b0 : List UInt8) (n6 : Nat) (recvars_find_i2_l0 : Int → Option (J Unit Int)) (x5 : Int) : Option (J Unit Int) :=
  cond (decide (x5 < (a0.length : Int))) (
    req (((0 : Int) ≤ x5) ∧ (x5 < (a0.length : Int))) (
      cond (vars_place_2_i0 (a0.getD (x5 : Int).toNat default) b0 (a0.getD (x5 : Int).toNat default)) (
        some (J.ret x5)) (
        recvars_find_i2_l0 (IntKind.i64.wrap (x5 + 1))))) (
    some (J.go ()))
def vars_find_i2_l0 (a0 : List TVar) (b0 : List UInt8) : Nat → Int → Option (J Unit Int)
  | 0, _ => none
  | n + 1, x => vars_find_i2_l0_b a0 b0 n (vars_find_i2_l0 a0 b0 n) x
def vars_find_i2 (fuel : Nat) (a0 : List TVar) (b0 : List UInt8) : Option Int :=
  jn (vars_find_i2_l0 a0 b0 fuel (0 : Int)) (fun s1 =>
    some (-1))
theorem vars_find_i2_ok (fuel : Nat) (a0 : List TVar) (b0 : List UInt8) (r : Int) (h : vars_find_i2 fuel a0 b0 = some r) : ACalls Try.prog 30 [.slice 5 (a0.map encTVar), .func (.func 46) [.ptr false 0 0]] [.cells 9 [.str b0]] (fun q => q = ⟨.int .i64 r, [.cells 9 [.str b0]], [], []⟩) := by
  unfold vars_find_i2 at h
  refine ACalls.noown ?_
  refine ACalls.intro (fn := Try.f30) Try.func30 rfl ?_
  refine AWp.keep [0, 1] (st' := ⟨sp [(0, .slice 5 (a0.map encTVar)), (1, .func (.func 46) [.ptr false 0 0])] 0 19, [], [.cells 9 [.str b0]], []⟩) (by kernel_rfl) ?_
  refine AWp.seqX [0, 1] (tg := []) (H := []) (st' := ⟨sp [(0, .slice 5 (a0.map encTVar)), (1, .func (.func 46) [.ptr false 0 0])] 0 19, [], [.cells 9 [.str b0]], []⟩) (ob := (True ∧ True)) (by kernel_rfl) ⟨trivial, trivial⟩ ?_
  obtain ⟨j3, e2, k4⟩ := jn_some h
  refine AWp.seqSum (σ := Unit) (fun s1 => ⟨sp [] 0 19, [], [.cells 9 [.str b0]], []⟩) (fun s1 => j3 = .go s1) ?_ ?_
  ·
    refine AWp.seqX [1, 7, 8, 9] (tg := []) (H := [(8, .int .i64 (a0.length : Int))]) (st' := ⟨sp [(1, .func (.func 46) [.ptr false 0 0]), (7, .slice 5 (a0.map encTVar)), (8, .int .i64 (a0.length : Int)), (9, .int .i64 0)] 0 19, [], [.cells 9 [.str b0]], []⟩) (ob := (True ∧ (((True ∧ True) ∧ ((.int .i64 ((a0.map encTVar).length : Int) : DV) = .int .i64 (a0.length : Int))) ∧ (True ∧ True)))) (by kernel_rfl) ⟨trivial, ⟨⟨⟨trivial, trivial⟩, (congrArg (fun n : Nat => DV.int .i64 n) (List.length_map _))⟩, ⟨trivial, trivial⟩⟩⟩ ?_
    refine AWp.block ?_
    refine AWp.loop (ι := {p : Nat × (Int) // vars_find_i2_l0 a0 b0 p.1 p.2 = some _}) (fun p => ⟨sp [(1, .func (.func 46) [.ptr false 0 0]), (7, .slice 5 (a0.map encTVar)), (8, .int .i64 (a0.length : Int)), (9, .int .i64 p.1.2)] 0 19, [], [.cells 9 [.str b0]], []⟩) (fun p => p.1.1) ⟨(fuel, (0 : Int)), e2⟩ ⟨⟨.inl rfl, ⟨.inr ⟨rfl, rfl⟩, ⟨.inl rfl, ⟨.inl rfl, ⟨.inl rfl, ⟨.inl rfl, ⟨.inl rfl, ⟨.inr ⟨rfl, rfl⟩, ⟨.inr ⟨rfl, rfl⟩, ⟨.inr ⟨rfl, rfl⟩, ⟨.inl rfl, ⟨.inl rfl, ⟨.inl rfl, ⟨.inl rfl, ⟨.inl rfl, ⟨.inl rfl, ⟨.inl rfl, ⟨.inl rfl, ⟨.inl rfl, trivial⟩⟩⟩⟩⟩⟩⟩⟩⟩⟩⟩⟩⟩⟩⟩⟩⟩⟩⟩, rfl, rfl, rfl, ⟨_, .slnil, (.refl _)⟩, rfl⟩ ?_
    rintro ⟨⟨n6, x5⟩, h⟩
    cases n6 with
    | zero => cases h
    | succ n6 =>
      replace h : vars_find_i2_l0_b a0 b0 n6 (vars_find_i2_l0 a0 b0 n6) x5 = some _ := h
      unfold vars_find_i2_l0_b at h
      refine AWp.seqX [1, 7, 8, 9, 10] (tg := []) (H := []) (st' := ⟨sp [(1, .func (.func 46) [.ptr false 0 0]), (7, .slice 5 (a0.map encTVar)), (8, .int .i64 (a0.length : Int)), (9, .int .i64 x5), (10, .bool (decide (x5 < (a0.length : Int))))] 0 19, [], [.cells 9 [.str b0]], []⟩) (ob := ((True ∧ (True ∧ (IntKind.i64 = IntKind.i64))) ∧ True)) (by kernel_rfl) ⟨⟨trivial, ⟨trivial, rfl⟩⟩, trivial⟩ ?_
      refine AWp.seq ?_
      refine AWp.cond (b := decide (x5 < (a0.length : Int))) (by kernel_rfl) trivial (fun c7 => ?_) (fun c7 => ?_)
      · have h := cond_t c7 h
        refine AWp.skip ?_
        refine AWp.seq ?_
        refine AWp.block ?_
        obtain ⟨⟨o8, o9⟩, h⟩ := req_some h
        refine AWp.seqX [1, 5, 6, 7, 8, 9] (tg := [5, 11, 13]) (H := [(12, .cptr [.str ((a0.getD (x5 : Int).toNat default).fName), .str ((a0.getD (x5 : Int).toNat default).fValue), .bool ((a0.getD (x5 : Int).toNat default).fSet), .bool ((a0.getD (x5 : Int).toNat default).fExport), .bool ((a0.getD (x5 : Int).toNat default).fReadonly)] 0)]) (st' := ⟨sp [(1, .func (.func 46) [.ptr false 0 0]), (5, .int .i64 x5), (6, .ptr true 0 0), (7, .slice 5 (a0.map encTVar)), (8, .int .i64 (a0.length : Int)), (9, .int .i64 x5)] 0 19, [.cells 26 [.str ((a0.getD (x5 : Int).toNat default).fName), .str ((a0.getD (x5 : Int).toNat default).fValue), .bool ((a0.getD (x5 : Int).toNat default).fSet), .bool ((a0.getD (x5 : Int).toNat default).fExport), .bool ((a0.getD (x5 : Int).toNat default).fReadonly)]], [.cells 9 [.str b0]], []⟩) (ob := (True ∧ (((True ∧ (True ∧ (((0 : Int) ≤ x5) ∧ ((x5 < ((a0.map encTVar).length : Int)) ∧ (5 = 5))))) ∧ ((.cptr ((a0.map encTVar).getD (x5 : Int).toNat []) 0 : DV) = .cptr [.str ((a0.getD (x5 : Int).toNat default).fName), .str ((a0.getD (x5 : Int).toNat default).fValue), .bool ((a0.getD (x5 : Int).toNat default).fSet), .bool ((a0.getD (x5 : Int).toNat default).fExport), .bool ((a0.getD (x5 : Int).toNat default).fReadonly)] 0)) ∧ ((True ∧ (0 + 5 ≤ 5)) ∧ ((true = true) ∧ (True ∧ ((True ∧ (True ∧ ((true = true) ∧ (0 + 5 ≤ 5)))) ∧ True))))))) (by kernel_rfl) ⟨trivial, ⟨⟨⟨trivial, ⟨trivial, ⟨o8, ⟨(lt_map o9), rfl⟩⟩⟩⟩, (congrArg (fun c => DV.cptr c 0) (getD_encI encTVar a0 (x5 : Int) o8 o9))⟩, ⟨⟨trivial, (by decide)⟩, ⟨rfl, ⟨trivial, ⟨⟨trivial, ⟨trivial, ⟨rfl, (by decide)⟩⟩⟩, trivial⟩⟩⟩⟩⟩⟩ ?_
        refine AWp.seqO ?_
        refine AOps.runK [1, 5, 7, 8, 9, 14, 15] 2 (tg := []) (H := []) (st' := ⟨sp [(1, .func (.func 46) [.ptr false 0 0]), (5, .int .i64 x5), (7, .slice 5 (a0.map encTVar)), (8, .int .i64 (a0.length : Int)), (9, .int .i64 x5), (14, .func (.func 46) [.ptr false 0 0]), (15, .agg [.str ((a0.getD (x5 : Int).toNat default).fName), .str ((a0.getD (x5 : Int).toNat default).fValue), .bool ((a0.getD (x5 : Int).toNat default).fSet), .bool ((a0.getD (x5 : Int).toNat default).fExport), .bool ((a0.getD (x5 : Int).toNat default).fReadonly)])] 0 19, [.cells 26 [.str ((a0.getD (x5 : Int).toNat default).fName), .str ((a0.getD (x5 : Int).toNat default).fValue), .bool ((a0.getD (x5 : Int).toNat default).fSet), .bool ((a0.getD (x5 : Int).toNat default).fExport), .bool ((a0.getD (x5 : Int).toNat default).fReadonly)]], [.cells 9 [.str b0]], []⟩) (ob := (True ∧ ((True ∧ (0 + 5 ≤ 5)) ∧ True))) (by kernel_rfl) ⟨trivial, ⟨⟨trivial, (by decide)⟩, trivial⟩⟩ ?_
        refine AOps.ccall (caps := [.ptr false 0 0]) (ds := [.agg [.str ((a0.getD (x5 : Int).toNat default).fName), .str ((a0.getD (x5 : Int).toNat default).fValue), .bool ((a0.getD (x5 : Int).toNat default).fSet), .bool ((a0.getD (x5 : Int).toNat default).fExport), .bool ((a0.getD (x5 : Int).toNat default).fReadonly)], .ptr false 0 0]) (d := .bool (vars_place_2_i0 (a0.getD (x5 : Int).toNat default) b0 (a0.getD (x5 : Int).toNat default))) (ow := []) (S1 := [.cells 9 [.str b0]]) (L1 := [.cells 26 [.str ((a0.getD (x5 : Int).toNat default).fName), .str ((a0.getD (x5 : Int).toNat default).fValue), .bool ((a0.getD (x5 : Int).toNat default).fSet), .bool ((a0.getD (x5 : Int).toNat default).fExport), .bool ((a0.getD (x5 : Int).toNat default).fReadonly)]]) (st' := ⟨sp [(1, .func (.func 46) [.ptr false 0 0]), (5, .int .i64 x5), (7, .slice 5 (a0.map encTVar)), (8, .int .i64 (a0.length : Int)), (9, .int .i64 x5), (14, .func (.func 46) [.ptr false 0 0]), (15, .agg [.str ((a0.getD (x5 : Int).toNat default).fName), .str ((a0.getD (x5 : Int).toNat default).fValue), .bool ((a0.getD (x5 : Int).toNat default).fSet), .bool ((a0.getD (x5 : Int).toNat default).fExport), .bool ((a0.getD (x5 : Int).toNat default).fReadonly)]), (16, .bool (vars_place_2_i0 (a0.getD (x5 : Int).toNat default) b0 (a0.getD (x5 : Int).toNat default)))] 0 19, [.cells 26 [.str ((a0.getD (x5 : Int).toNat default).fName), .str ((a0.getD (x5 : Int).toNat default).fValue), .bool ((a0.getD (x5 : Int).toNat default).fSet), .bool ((a0.getD (x5 : Int).toNat default).fExport), .bool ((a0.getD (x5 : Int).toNat default).fReadonly)]], [.cells 9 [.str b0]], []⟩) (by kernel_rfl) fk46 (by kernel_rfl) ⟨trivial, trivial⟩ (by kernel_rfl) (vars_place_2_i0_ok (a0.getD (x5 : Int).toNat default) b0 (a0.getD (x5 : Int).toNat default) (vars_place_2_i0 (a0.getD (x5 : Int).toNat default) b0 (a0.getD (x5 : Int).toNat default)) rfl) ⟨.inl rfl, trivial⟩ ⟨.inl rfl, trivial⟩ (by kernel_rfl) ?_
        refine AOps.done ?_
        refine AWp.cond (b := (vars_place_2_i0 (a0.getD (x5 : Int).toNat default) b0 (a0.getD (x5 : Int).toNat default))) (by kernel_rfl) trivial (fun c11 => ?_) (fun c11 => ?_)
        · have h := cond_t c11 h
          refine AWp.seqX [4] (tg := [4, 17]) (H := []) (st' := ⟨sp [(4, .int .i64 x5)] 0 19, [.cells 26 [.str ((a0.getD (x5 : Int).toNat default).fName), .str ((a0.getD (x5 : Int).toNat default).fValue), .bool ((a0.getD (x5 : Int).toNat default).fSet), .bool ((a0.getD (x5 : Int).toNat default).fExport), .bool ((a0.getD (x5 : Int).toNat default).fReadonly)]], [.cells 9 [.str b0]], []⟩) (ob := (True ∧ (True ∧ True))) (by kernel_rfl) ⟨trivial, ⟨trivial, trivial⟩⟩ ?_
          refine AWp.ret ?_
          have h := jk_some h k4
          obtain rfl := Option.some.inj h
          exact ⟨[.int .i64 x5], (True ∧ True), by kernel_rfl, ⟨trivial, trivial⟩, by kernel_rfl, ⟨rfl, rfl, rfl⟩⟩
        · have h := cond_f c11 h
          refine AWp.skip ?_
          refine AWp.tailN [1, 7, 8, 9] [] (tg := []) (H := []) (st' := ⟨sp [(1, .func (.func 46) [.ptr false 0 0]), (7, .slice 5 (a0.map encTVar)), (8, .int .i64 (a0.length : Int)), (9, .int .i64 (IntKind.i64.wrap (x5 + 1)))] 0 19, [.cells 26 [.str ((a0.getD (x5 : Int).toNat default).fName), .str ((a0.getD (x5 : Int).toNat default).fValue), .bool ((a0.getD (x5 : Int).toNat default).fSet), .bool ((a0.getD (x5 : Int).toNat default).fExport), .bool ((a0.getD (x5 : Int).toNat default).fReadonly)]], [.cells 9 [.str b0]], []⟩) (ob := ((True ∧ (True ∧ (IntKind.i64 = IntKind.i64))) ∧ (True ∧ True))) (by kernel_rfl) ⟨⟨trivial, ⟨trivial, rfl⟩⟩, ⟨trivial, trivial⟩⟩ ?_
          exact ⟨⟨(n6, IntKind.i64.wrap (x5 + 1)), h⟩, Nat.lt_succ_self _, ⟨⟨.inl rfl, ⟨.inr ⟨rfl, rfl⟩, ⟨.inl rfl, ⟨.inl rfl, ⟨.inl rfl, ⟨.inl rfl, ⟨.inl rfl, ⟨.inr ⟨rfl, rfl⟩, ⟨.inr ⟨rfl, rfl⟩, ⟨.inr ⟨rfl, rfl⟩, ⟨.inl rfl, ⟨.inl rfl, ⟨.inl rfl, ⟨.inl rfl, ⟨.inl rfl, ⟨.inl rfl, ⟨.inl rfl, ⟨.inl rfl, ⟨.inl rfl, trivial⟩⟩⟩⟩⟩⟩⟩⟩⟩⟩⟩⟩⟩⟩⟩⟩⟩⟩⟩, rfl, rfl, rfl, ⟨_, .slnil, (.refl _)⟩, rfl⟩⟩
      · have h := cond_f c7 h
        refine AWp.exit ?_
        obtain rfl := Option.some.inj h
        exact ⟨_, rfl, ⟨⟨.inl rfl, ⟨.inl rfl, ⟨.inl rfl, ⟨.inl rfl, ⟨.inl rfl, ⟨.inl rfl, ⟨.inl rfl, ⟨.inl rfl, ⟨.inl rfl, ⟨.inl rfl, ⟨.inl rfl, ⟨.inl rfl, ⟨.inl rfl, ⟨.inl rfl, ⟨.inl rfl, ⟨.inl rfl, ⟨.inl rfl, ⟨.inl rfl, ⟨.inl rfl, trivial⟩⟩⟩⟩⟩⟩⟩⟩⟩⟩⟩⟩⟩⟩⟩⟩⟩⟩⟩, rfl, rfl, rfl, ⟨_, .slnil, (.refl _)⟩, rfl⟩⟩
  · intro s1 s1h
    have h := jk_go s1h k4
    refine AWp.seqX [4] (tg := []) (H := []) (st' := ⟨sp [(4, .int .i64 (-1))] 0 19, [], [.cells 9 [.str b0]], []⟩) (ob := (True ∧ True)) (by kernel_rfl) ⟨trivial, trivial⟩ ?_
    refine AWp.ret ?_
    obtain rfl := Option.some.inj h
    exact ⟨[.int .i64 (-1)], (True ∧ True), by kernel_rfl, ⟨trivial, trivial⟩, by kernel_rfl, ⟨rfl, rfl, rfl⟩⟩
def vars_place (fuel : Nat) (a0 : List TVar) (a1 : List UInt8) : Option (Int × Bool) :=
  (vars_find_i1 fuel a0 a1).bind (fun r1 =>
    cond (decide (0 ≤ r1)) (
      some (r1, true)) (
      (vars_find_i2 fuel a0 a1).bind (fun r4 =>
        cond (decide (0 ≤ r4)) (
          some (r4, false)) (
          some ((a0.length : Int), false)))))
theorem vars_place_ok (fuel : Nat) (a0 : List TVar) (a1 : List UInt8) (r : Int × Bool) (h : vars_place fuel a0 a1 = some r) : ACalls Try.prog 34 [.slice 5 (a0.map encTVar), .str a1] [] (fun q => q = ⟨.tuple [.int .i64 r.1, .bool r.2], [], [], []⟩) := by
  unfold vars_place at h
  refine ACalls.noown ?_
  refine ACalls.intro (fn := Try.f34) Try.func34 rfl ?_
  refine AWp.keep [0, 1] (st' := ⟨sp [(0, .slice 5 (a0.map encTVar)), (1, .str a1)] 0 22, [], [], []⟩) (by kernel_rfl) ?_
  refine AWp.seqX [0, 3] (tg := []) (H := []) (st' := ⟨sp [(0, .slice 5 (a0.map encTVar)), (3, .ptr true 0 0)] 0 22, [.cells 9 [.str a1]], [], []⟩) (ob := ((True ∧ (true = true)) ∧ (True ∧ (True ∧ True)))) (by kernel_rfl) ⟨⟨trivial, rfl⟩, ⟨trivial, ⟨trivial, trivial⟩⟩⟩ ?_
  refine AWp.seq ?_
  refine AWp.seqO ?_
  refine AOps.runK [0, 3, 8, 9] 2 (tg := [6, 10]) (H := []) (st' := ⟨sp [(0, .slice 5 (a0.map encTVar)), (3, .ptr true 0 0), (8, .slice 5 (a0.map encTVar)), (9, .func (.func 45) [.ptr true 0 0])] 0 22, [.cells 9 [.str a1]], [], []⟩) (ob := (True ∧ (True ∧ True))) (by kernel_rfl) ⟨trivial, ⟨trivial, trivial⟩⟩ ?_
  obtain ⟨r1, e2, h⟩ := bind_some h
  refine AOps.ccall (caps := []) (ds := [.slice 5 (a0.map encTVar), .func (.func 45) [.ptr false 0 0]]) (d := .int .i64 r1) (ow := []) (S1 := []) (L1 := [.cells 9 [.str a1]]) (st' := ⟨sp [(0, .slice 5 (a0.map encTVar)), (3, .ptr true 0 0), (8, .slice 5 (a0.map encTVar)), (9, .func (.func 45) [.ptr true 0 0]), (10, .int .i64 r1)] 0 22, [.cells 9 [.str a1]], [], []⟩) (by kernel_rfl) fk30 (by kernel_rfl) ⟨trivial, ⟨trivial, trivial⟩⟩ (by kernel_rfl) (vars_find_i1_ok fuel a0 a1 r1 e2) trivial ⟨.inl rfl, trivial⟩ (by kernel_rfl) ?_
  refine AOps.runK [0, 3, 6] 1 (tg := [6, 10]) (H := []) (st' := ⟨sp [(0, .slice 5 (a0.map encTVar)), (3, .ptr true 0 0), (6, .int .i64 r1)] 0 22, [.cells 9 [.str a1]], [], []⟩) (ob := (True ∧ True)) (by kernel_rfl) ⟨trivial, trivial⟩ ?_
  refine AOps.done ?_
  refine AWp.seqX [0, 3, 6, 12] (tg := []) (H := []) (st' := ⟨sp [(0, .slice 5 (a0.map encTVar)), (3, .ptr true 0 0), (6, .int .i64 r1), (12, .bool (decide (0 ≤ r1)))] 0 22, [.cells 9 [.str a1]], [], []⟩) (ob := (True ∧ ((True ∧ (True ∧ (IntKind.i64 = IntKind.i64))) ∧ True))) (by kernel_rfl) ⟨trivial, ⟨⟨trivial, ⟨trivial, rfl⟩⟩, trivial⟩⟩ ?_
  refine AWp.cond (b := decide (0 ≤ r1)) (by kernel_rfl) trivial (fun c3 => ?_) (fun c3 => ?_)
  · have h := cond_t c3 h
    refine AWp.seqX [4, 5] (tg := [4, 13]) (H := []) (st' := ⟨sp [(4, .int .i64 r1), (5, .bool true)] 0 22, [.cells 9 [.str a1]], [], []⟩) (ob := (True ∧ (True ∧ (True ∧ True)))) (by kernel_rfl) ⟨trivial, ⟨trivial, ⟨trivial, trivial⟩⟩⟩ ?_
    refine AWp.ret ?_
    obtain rfl := Option.some.inj h
    exact ⟨[.int .i64 r1, .bool true], (True ∧ (True ∧ True)), by kernel_rfl, ⟨trivial, ⟨trivial, trivial⟩⟩, by kernel_rfl, ⟨rfl, rfl, rfl⟩⟩
  · have h := cond_f c3 h
    refine AWp.skip ?_
    refine AWp.seq ?_
    refine AWp.seqO ?_
    refine AOps.runK [0, 14, 15] 2 (tg := [7, 16]) (H := []) (st' := ⟨sp [(0, .slice 5 (a0.map encTVar)), (14, .slice 5 (a0.map encTVar)), (15, .func (.func 46) [.ptr true 0 0])] 0 22, [.cells 9 [.str a1]], [], []⟩) (ob := (True ∧ (True ∧ True))) (by kernel_rfl) ⟨trivial, ⟨trivial, trivial⟩⟩ ?_
    obtain ⟨r4, e5, h⟩ := bind_some h
    refine AOps.ccall (caps := []) (ds := [.slice 5 (a0.map encTVar), .func (.func 46) [.ptr false 0 0]]) (d := .int .i64 r4) (ow := []) (S1 := []) (L1 := [.cells 9 [.str a1]]) (st' := ⟨sp [(0, .slice 5 (a0.map encTVar)), (14, .slice 5 (a0.map encTVar)), (15, .func (.func 46) [.ptr true 0 0]), (16, .int .i64 r4)] 0 22, [.cells 9 [.str a1]], [], []⟩) (by kernel_rfl) fk30 (by kernel_rfl) ⟨trivial, ⟨trivial, trivial⟩⟩ (by kernel_rfl) (vars_find_i2_ok fuel a0 a1 r4 e5) trivial ⟨.inl rfl, trivial⟩ (by kernel_rfl) ?_
    refine AOps.runK [0, 7] 1 (tg := [7, 16]) (H := []) (st' := ⟨sp [(0, .slice 5 (a0.map encTVar)), (7, .int .i64 r4)] 0 22, [.cells 9 [.str a1]], [], []⟩) (ob := (True ∧ True)) (by kernel_rfl) ⟨trivial, trivial⟩ ?_
    refine AOps.done ?_
    refine AWp.seqX [0, 7, 18] (tg := []) (H := []) (st' := ⟨sp [(0, .slice 5 (a0.map encTVar)), (7, .int .i64 r4), (18, .bool (decide (0 ≤ r4)))] 0 22, [.cells 9 [.str a1]], [], []⟩) (ob := (True ∧ ((True ∧ (True ∧ (IntKind.i64 = IntKind.i64))) ∧ True))) (by kernel_rfl) ⟨trivial, ⟨⟨trivial, ⟨trivial, rfl⟩⟩, trivial⟩⟩ ?_
    refine AWp.cond (b := decide (0 ≤ r4)) (by kernel_rfl) trivial (fun c6 => ?_) (fun c6 => ?_)
    · have h := cond_t c6 h
      refine AWp.seqX [4, 5] (tg := [4, 19]) (H := []) (st' := ⟨sp [(4, .int .i64 r4), (5, .bool false)] 0 22, [.cells 9 [.str a1]], [], []⟩) (ob := (True ∧ (True ∧ (True ∧ True)))) (by kernel_rfl) ⟨trivial, ⟨trivial, ⟨trivial, trivial⟩⟩⟩ ?_
      refine AWp.ret ?_
      obtain rfl := Option.some.inj h
      exact ⟨[.int .i64 r4, .bool false], (True ∧ (True ∧ True)), by kernel_rfl, ⟨trivial, ⟨trivial, trivial⟩⟩, by kernel_rfl, ⟨rfl, rfl, rfl⟩⟩
    · have h := cond_f c6 h
      refine AWp.skip ?_
      refine AWp.seqX [4, 5] (tg := [4, 21]) (H := [(21, .int .i64 (a0.length : Int))]) (st' := ⟨sp [(4, .int .i64 (a0.length : Int)), (5, .bool false)] 0 22, [.cells 9 [.str a1]], [], []⟩) (ob := (True ∧ (((True ∧ True) ∧ ((.int .i64 ((a0.map encTVar).length : Int) : DV) = .int .i64 (a0.length : Int))) ∧ (True ∧ (True ∧ True))))) (by kernel_rfl) ⟨trivial, ⟨⟨⟨trivial, trivial⟩, (congrArg (fun n : Nat => DV.int .i64 n) (List.length_map _))⟩, ⟨trivial, ⟨trivial, trivial⟩⟩⟩⟩ ?_
      refine AWp.ret ?_
      obtain rfl := Option.some.inj h
      exact ⟨[.int .i64 (a0.length : Int), .bool false], (True ∧ (True ∧ True)), by kernel_rfl, ⟨trivial, ⟨trivial, trivial⟩⟩, by kernel_rfl, ⟨rfl, rfl, rfl⟩⟩
def vars_splice (a0 : List TVar) (a1 : Int) (a2 : Int) (a3 : List TVar) : Option (List TVar) :=
  req (((0 : Int) ≤ (IntKind.i64.wrap ((a0.length : Int) + (a3.length : Int)))) ∧ ((IntKind.i64.wrap ((a0.length : Int) + (a3.length : Int))) ≤ 9223372036854775807) ∧ ((40 : Int) * (IntKind.i64.wrap ((a0.length : Int) + (a3.length : Int))) ≤ 281474976710656)) (
    req (((0 : Int) ≤ a1) ∧ (a1 ≤ (a0.length : Int)) ∧ (0 + (a0.take (a1 : Int).toNat).length ≤ 9223372036854775807) ∧ ((0 + (a0.take (a1 : Int).toNat).length) * 40 ≤ 140737488355328)) (
      req (((a0.take (a1 : Int).toNat).length + a3.length ≤ 9223372036854775807) ∧ (((a0.take (a1 : Int).toNat).length + a3.length) * 40 ≤ 140737488355328)) (
        req (((0 : Int) ≤ (IntKind.i64.wrap (a1 + a2))) ∧ ((IntKind.i64.wrap (a1 + a2) : Int) ≤ (a0.length : Int)) ∧ (((a0.take (a1 : Int).toNat) ++ a3).length + (a0.drop (IntKind.i64.wrap (a1 + a2) : Int).toNat).length ≤ 9223372036854775807) ∧ ((((a0.take (a1 : Int).toNat) ++ a3).length + (a0.drop (IntKind.i64.wrap (a1 + a2) : Int).toNat).length) * 40 ≤ 140737488355328)) (
          some (((a0.take (a1 : Int).toNat) ++ a3) ++ (a0.drop (IntKind.i64.wrap (a1 + a2) : Int).toNat))))))
theorem vars_splice_ok (a0 : List TVar) (a1 : Int) (a2 : Int) (a3 : List TVar) (r : List TVar) (h : vars_splice a0 a1 a2 a3 = some r) : ACalls Try.prog 35 [.slice 5 (a0.map encTVar), .int .i64 a1, .int .i64 a2, .slice 5 (a3.map encTVar)] [] (fun q => q = ⟨.slice 5 (r.map encTVar), [], [], [⟨.slot 0, 26, 5⟩]⟩) := by
  unfold vars_splice at h
  refine ACalls.intro (fn := Try.f35) Try.func35 rfl ?_
  refine AWp.keep [0, 1, 2, 3] (st' := ⟨sp [(0, .slice 5 (a0.map encTVar)), (1, .int .i64 a1), (2, .int .i64 a2), (3, .slice 5 (a3.map encTVar))] 0 31, [], [], []⟩) (by kernel_rfl) ?_
  refine AWp.seqX [0, 1, 2, 3] (tg := []) (H := []) (st' := ⟨sp [(0, .slice 5 (a0.map encTVar)), (1, .int .i64 a1), (2, .int .i64 a2), (3, .slice 5 (a3.map encTVar))] 0 31, [], [], []⟩) (ob := (True ∧ True)) (by kernel_rfl) ⟨trivial, trivial⟩ ?_
  obtain ⟨⟨o1, o2, o3⟩, h⟩ := req_some h
  refine AWp.seqX [0, 1, 2, 3, 9] (tg := [9, 15]) (H := [(11, .int .i64 (a0.length : Int)), (13, .int .i64 (a3.length : Int)), (15, .slice 5 [])]) (st' := ⟨sp [(0, .slice 5 (a0.map encTVar)), (1, .int .i64 a1), (2, .int .i64 a2), (3, .slice 5 (a3.map encTVar)), (9, .slice 5 [])] 0 31, [], [], [⟨.slot 9, 26, 5⟩]⟩) (ob := (True ∧ (((True ∧ True) ∧ ((.int .i64 ((a0.map encTVar).length : Int) : DV) = .int .i64 (a0.length : Int))) ∧ (True ∧ (((True ∧ True) ∧ ((.int .i64 ((a3.map encTVar).length : Int) : DV) = .int .i64 (a3.length : Int))) ∧ ((True ∧ (True ∧ (IntKind.i64 = IntKind.i64))) ∧ (((True ∧ (True ∧ (((0 : Int) ≤ 0) ∧ (((0 : Int) ≤ (IntKind.i64.wrap ((a0.length : Int) + (a3.length : Int)))) ∧ (((IntKind.i64.wrap ((a0.length : Int) + (a3.length : Int))) ≤ 9223372036854775807) ∧ (((40 : Int) * (IntKind.i64.wrap ((a0.length : Int) + (a3.length : Int))) ≤ 281474976710656) ∧ (true = true))))))) ∧ ((.slice 5 [] : DV) = .slice 5 [])) ∧ (True ∧ True)))))))) (by kernel_rfl) ⟨trivial, ⟨⟨⟨trivial, trivial⟩, (congrArg (fun n : Nat => DV.int .i64 n) (List.length_map _))⟩, ⟨trivial, ⟨⟨⟨trivial, trivial⟩, (congrArg (fun n : Nat => DV.int .i64 n) (List.length_map _))⟩, ⟨⟨trivial, ⟨trivial, rfl⟩⟩, ⟨⟨⟨trivial, ⟨trivial, ⟨(by decide), ⟨o1, ⟨o2, ⟨o3, rfl⟩⟩⟩⟩⟩⟩, rfl⟩, ⟨trivial, trivial⟩⟩⟩⟩⟩⟩⟩ ?_
  obtain ⟨⟨o4, o5, o6, o7⟩, h⟩ := req_some h
  refine AWp.seqX [0, 1, 2, 3, 9] (tg := [9, 16, 20]) (H := [(19, .slice 5 ((a0.take (a1 : Int).toNat).map encTVar)), (20, .slice 5 ((a0.take (a1 : Int).toNat).map encTVar))]) (st' := ⟨sp [(0, .slice 5 (a0.map encTVar)), (1, .int .i64 a1), (2, .int .i64 a2), (3, .slice 5 (a3.map encTVar)), (9, .slice 5 ((a0.take (a1 : Int).toNat).map encTVar))] 0 31, [], [], [⟨.slot 9, 26, 5⟩]⟩) (ob := (True ∧ (True ∧ (True ∧ (((True ∧ (True ∧ (True ∧ (((0 : Int) ≤ 0) ∧ (((0 : Int) ≤ a1) ∧ ((a1 ≤ ((a0.map encTVar).length : Int)) ∧ (5 = 5))))))) ∧ ((.slice 5 (((a0.map encTVar).take (a1 : Int).toNat).drop 0) : DV) = .slice 5 ((a0.take (a1 : Int).toNat).map encTVar))) ∧ (((True ∧ (True ∧ ((true = true) ∧ ((([] : List (List DV)).length + (((a0.take (a1 : Int).toNat).map encTVar) : List (List DV)).length ≤ 9223372036854775807) ∧ ((([] : List (List DV)).length + (((a0.take (a1 : Int).toNat).map encTVar) : List (List DV)).length) * 40 ≤ 140737488355328))))) ∧ ((.slice 5 ([] ++ ((a0.take (a1 : Int).toNat).map encTVar)) : DV) = .slice 5 ((a0.take (a1 : Int).toNat).map encTVar))) ∧ (True ∧ True))))))) (by kernel_rfl) ⟨trivial, ⟨trivial, ⟨trivial, ⟨⟨⟨trivial, ⟨trivial, ⟨trivial, ⟨(by decide), ⟨o4, ⟨(le_map o5), rfl⟩⟩⟩⟩⟩⟩, (congrArg (DV.slice 5) (by simp [List.map_take]))⟩, ⟨⟨⟨trivial, ⟨trivial, ⟨rfl, ⟨(by simpa using o6), (by simpa using o7)⟩⟩⟩⟩, rfl⟩, ⟨trivial, trivial⟩⟩⟩⟩⟩⟩ ?_
  obtain ⟨⟨o8, o9⟩, h⟩ := req_some h
  refine AWp.seqX [0, 1, 2, 9] (tg := [9, 21, 23]) (H := [(23, .slice 5 (((a0.take (a1 : Int).toNat) ++ a3).map encTVar))]) (st' := ⟨sp [(0, .slice 5 (a0.map encTVar)), (1, .int .i64 a1), (2, .int .i64 a2), (9, .slice 5 (((a0.take (a1 : Int).toNat) ++ a3).map encTVar))] 0 31, [], [], [⟨.slot 9, 26, 5⟩]⟩) (ob := (True ∧ (True ∧ (((True ∧ (True ∧ ((true = true) ∧ (((((a0.take (a1 : Int).toNat).map encTVar) : List (List DV)).length + ((a3.map encTVar) : List (List DV)).length ≤ 9223372036854775807) ∧ (((((a0.take (a1 : Int).toNat).map encTVar) : List (List DV)).length + ((a3.map encTVar) : List (List DV)).length) * 40 ≤ 140737488355328))))) ∧ ((.slice 5 (((a0.take (a1 : Int).toNat).map encTVar) ++ (a3.map encTVar)) : DV) = .slice 5 (((a0.take (a1 : Int).toNat) ++ a3).map encTVar))) ∧ (True ∧ True))))) (by kernel_rfl) ⟨trivial, ⟨trivial, ⟨⟨⟨trivial, ⟨trivial, ⟨rfl, ⟨(by simpa using o8), (by simpa using o9)⟩⟩⟩⟩, (congrArg (DV.slice 5) (List.map_append (f := encTVar) (l₁ := a0.take (a1 : Int).toNat) (l₂ := a3)).symm)⟩, ⟨trivial, trivial⟩⟩⟩⟩ ?_
  obtain ⟨⟨o10, o11, o12, o13⟩, h⟩ := req_some h
  refine AWp.seqX [8] (tg := [8, 24, 30]) (H := [(29, .slice 5 ((a0.drop (IntKind.i64.wrap (a1 + a2) : Int).toNat).map encTVar)), (30, .slice 5 ((((a0.take (a1 : Int).toNat) ++ a3) ++ (a0.drop (IntKind.i64.wrap (a1 + a2) : Int).toNat)).map encTVar))]) (st' := ⟨sp [(8, .slice 5 ((((a0.take (a1 : Int).toNat) ++ a3) ++ (a0.drop (IntKind.i64.wrap (a1 + a2) : Int).toNat)).map encTVar))] 0 31, [], [], [⟨.slot 8, 26, 5⟩]⟩) (ob := (True ∧ (True ∧ (True ∧ (True ∧ ((True ∧ (True ∧ (IntKind.i64 = IntKind.i64))) ∧ (((True ∧ (True ∧ (True ∧ (((0 : Int) ≤ (IntKind.i64.wrap (a1 + a2))) ∧ (((IntKind.i64.wrap (a1 + a2) : Int) ≤ ((a0.map encTVar).length : Int)) ∧ ((((a0.map encTVar).length : Int) ≤ ((a0.map encTVar).length : Int)) ∧ (5 = 5))))))) ∧ ((.slice 5 (((a0.map encTVar).take (a0.map encTVar).length).drop (IntKind.i64.wrap (a1 + a2) : Int).toNat) : DV) = .slice 5 ((a0.drop (IntKind.i64.wrap (a1 + a2) : Int).toNat).map encTVar))) ∧ (((True ∧ (True ∧ ((true = true) ∧ ((((((a0.take (a1 : Int).toNat) ++ a3).map encTVar) : List (List DV)).length + (((a0.drop (IntKind.i64.wrap (a1 + a2) : Int).toNat).map encTVar) : List (List DV)).length ≤ 9223372036854775807) ∧ ((((((a0.take (a1 : Int).toNat) ++ a3).map encTVar) : List (List DV)).length + (((a0.drop (IntKind.i64.wrap (a1 + a2) : Int).toNat).map encTVar) : List (List DV)).length) * 40 ≤ 140737488355328))))) ∧ ((.slice 5 ((((a0.take (a1 : Int).toNat) ++ a3).map encTVar) ++ ((a0.drop (IntKind.i64.wrap (a1 + a2) : Int).toNat).map encTVar)) : DV) = .slice 5 ((((a0.take (a1 : Int).toNat) ++ a3) ++ (a0.drop (IntKind.i64.wrap (a1 + a2) : Int).toNat)).map encTVar))) ∧ (True ∧ True))))))))) (by kernel_rfl) ⟨trivial, ⟨trivial, ⟨trivial, ⟨trivial, ⟨⟨trivial, ⟨trivial, rfl⟩⟩, ⟨⟨⟨trivial, ⟨trivial, ⟨trivial, ⟨o10, ⟨(le_map o11), ⟨(Int.le_refl _), rfl⟩⟩⟩⟩⟩⟩, (congrArg (DV.slice 5) (by rw [List.take_length]; simp [List.map_drop]))⟩, ⟨⟨⟨trivial, ⟨trivial, ⟨rfl, ⟨(by simpa using o12), (by simpa using o13)⟩⟩⟩⟩, (congrArg (DV.slice 5) (List.map_append (f := encTVar) (l₁ := (a0.take (a1 : Int).toNat) ++ a3) (l₂ := a0.drop (IntKind.i64.wrap (a1 + a2) : Int).toNat)).symm)⟩, ⟨trivial, trivial⟩⟩⟩⟩⟩⟩⟩⟩ ?_
  refine AWp.ret ?_
  obtain rfl := Option.some.inj h
  exact ⟨[.slice 5 ((((a0.take (a1 : Int).toNat) ++ a3) ++ (a0.drop (IntKind.i64.wrap (a1 + a2) : Int).toNat)).map encTVar)], (True ∧ True), by kernel_rfl, ⟨trivial, trivial⟩, by kernel_rfl, ACalls.eq_of rfl rfl rfl rfl⟩
def vars_Set (fuel : Nat) (a0 : List TVar) (a1 : List UInt8) (a2 : List UInt8) : Option ((List TVar) × Int) :=
  (chars_Name fuel a1).bind (fun r1 =>
    cond (!r1) (
      some (a0, 10)) (
      (vars_place fuel a0 a1).bind (fun r4 =>
        req (((r4.2 == true) = true → (0 : Int) ≤ r4.1) ∧ ((r4.2 == true) = true → r4.1 < (a0.length : Int))) (
          cond (cond r4.2 ((a0.getD (r4.1 : Int).toNat default).fReadonly) false) (
            some (a0, 11)) (
            cond (decide (4096 < (a2.length : Int))) (
              some (a0, 3)) (
              cond (cond (!r4.2) (decide (128 ≤ (a0.length : Int))) false) (
                some (a0, 4)) (
                cond (!r4.2) (
                  (vars_splice a0 r4.1 0 [(TVar.mk a1 a2 true false false)]).bind (fun r12 =>
                    some (r12, 0))) (
                  req (((0 : Int) ≤ r4.1) ∧ (r4.1 < (a0.length : Int))) (
                    (vars_splice a0 r4.1 1 [(TVar.mk ((a0.getD (r4.1 : Int).toNat default).fName) a2 true ((a0.getD (r4.1 : Int).toNat default).fExport) ((a0.getD (r4.1 : Int).toNat default).fReadonly))]).bind (fun r16 =>
                      some (r16, 0)))))))))))
theorem vars_Set_ok (fuel : Nat) (a0 : List TVar) (a1 : List UInt8) (a2 : List UInt8) (r : (List TVar) × Int) (h : vars_Set fuel a0 a1 a2 = some r) : ACalls Try.prog 17 [.slice 5 (a0.map encTVar), .str a1, .str a2] [] (fun q => q = ⟨.tuple [.slice 5 (r.1.map encTVar), .int .i64 r.2], [], [], []⟩) := by
  unfold vars_Set at h
  refine ACalls.noown ?_
  refine ACalls.intro (fn := Try.f17) Try.func17 rfl ?_
  refine AWp.keep [0, 1, 2] (st' := ⟨sp [(0, .slice 5 (a0.map encTVar)), (1, .str a1), (2, .str a2)] 0 67, [], [], []⟩) (by kernel_rfl) ?_
  refine AWp.seqX [0, 1, 2] (tg := []) (H := []) (st' := ⟨sp [(0, .slice 5 (a0.map encTVar)), (1, .str a1), (2, .str a2)] 0 67, [], [], []⟩) (ob := (True ∧ (True ∧ True))) (by kernel_rfl) ⟨trivial, ⟨trivial, trivial⟩⟩ ?_
  refine AWp.seq ?_
  refine AWp.seqO ?_
  refine AOps.runK [0, 1, 2, 11] 1 (tg := []) (H := []) (st' := ⟨sp [(0, .slice 5 (a0.map encTVar)), (1, .str a1), (2, .str a2), (11, .str a1)] 0 67, [], [], []⟩) (ob := (True ∧ True)) (by kernel_rfl) ⟨trivial, trivial⟩ ?_
  obtain ⟨r1, e2, h⟩ := bind_some h
  refine AOps.call1 (ds := [.str a1]) (d := .bool r1) (ow := []) (st' := ⟨sp [(0, .slice 5 (a0.map encTVar)), (1, .str a1), (2, .str a2), (11, .str a1), (12, .bool r1)] 0 67, [], [], []⟩) (by kernel_rfl) fk32 (by kernel_rfl) ⟨trivial, trivial⟩ (by kernel_rfl) (chars_Name_ok fuel a1 r1 e2) (by kernel_rfl) ?_
  refine AOps.runK [0, 1, 2, 13] 1 (tg := []) (H := []) (st' := ⟨sp [(0, .slice 5 (a0.map encTVar)), (1, .str a1), (2, .str a2), (13, .bool (!r1))] 0 67, [], [], []⟩) (ob := (True ∧ True)) (by kernel_rfl) ⟨trivial, trivial⟩ ?_
  refine AOps.done ?_
  refine AWp.cond (b := !r1) (by kernel_rfl) trivial (fun c3 => ?_) (fun c3 => ?_)
  · have h := cond_t c3 h
    refine AWp.seqX [6, 7] (tg := [6, 14]) (H := []) (st' := ⟨sp [(6, .slice 5 (a0.map encTVar)), (7, .int .i64 10)] 0 67, [], [], []⟩) (ob := (True ∧ (True ∧ (True ∧ True)))) (by kernel_rfl) ⟨trivial, ⟨trivial, ⟨trivial, trivial⟩⟩⟩ ?_
    refine AWp.ret ?_
    obtain rfl := Option.some.inj h
    exact ⟨[.slice 5 (a0.map encTVar), .int .i64 10], (True ∧ (True ∧ True)), by kernel_rfl, ⟨trivial, ⟨trivial, trivial⟩⟩, by kernel_rfl, ⟨rfl, rfl, rfl⟩⟩
  · have h := cond_f c3 h
    refine AWp.skip ?_
    refine AWp.seqO ?_
    refine AOps.runK [0, 1, 2, 16, 17] 2 (tg := [8, 9, 19, 20]) (H := []) (st' := ⟨sp [(0, .slice 5 (a0.map encTVar)), (1, .str a1), (2, .str a2), (16, .slice 5 (a0.map encTVar)), (17, .str a1)] 0 67, [], [], []⟩) (ob := (True ∧ (True ∧ True))) (by kernel_rfl) ⟨trivial, ⟨trivial, trivial⟩⟩ ?_
    obtain ⟨r4, e5, h⟩ := bind_some h
    refine AOps.call1 (ds := [.slice 5 (a0.map encTVar), .str a1]) (d := .tuple [.int .i64 r4.1, .bool r4.2]) (ow := []) (st' := ⟨sp [(0, .slice 5 (a0.map encTVar)), (1, .str a1), (2, .str a2), (16, .slice 5 (a0.map encTVar)), (17, .str a1), (18, .tuple [.int .i64 r4.1, .bool r4.2])] 0 67, [], [], []⟩) (by kernel_rfl) fk34 (by kernel_rfl) ⟨trivial, ⟨trivial, trivial⟩⟩ (by kernel_rfl) (vars_place_ok fuel a0 a1 r4 e5) (by kernel_rfl) ?_
    refine AOps.runK [0, 1, 2, 8, 9] 5 (tg := [8, 9, 19, 20]) (H := []) (st' := ⟨sp [(0, .slice 5 (a0.map encTVar)), (1, .str a1), (2, .str a2), (8, .int .i64 r4.1), (9, .bool r4.2)] 0 67, [], [], []⟩) (ob := (True ∧ ((True ∧ (0 < 2)) ∧ ((True ∧ (1 < 2)) ∧ (True ∧ (True ∧ True)))))) (by kernel_rfl) ⟨trivial, ⟨⟨trivial, (by decide)⟩, ⟨⟨trivial, (by decide)⟩, ⟨trivial, ⟨trivial, trivial⟩⟩⟩⟩⟩ ?_
    refine AOps.done ?_
    refine AWp.seq ?_
    refine AWp.block ?_
    obtain ⟨⟨o6, o7⟩, h⟩ := req_some h
    refine AWp.seqX [0, 1, 2, 8, 9, 21] (tg := [21, 29]) (H := [(26, .cptr [.str ((a0.getD (r4.1 : Int).toNat default).fName), .str ((a0.getD (r4.1 : Int).toNat default).fValue), .bool ((a0.getD (r4.1 : Int).toNat default).fSet), .bool ((a0.getD (r4.1 : Int).toNat default).fExport), .bool ((a0.getD (r4.1 : Int).toNat default).fReadonly)] 0)]) (st' := ⟨sp [(0, .slice 5 (a0.map encTVar)), (1, .str a1), (2, .str a2), (8, .int .i64 r4.1), (9, .bool r4.2), (21, .bool (cond r4.2 ((a0.getD (r4.1 : Int).toNat default).fReadonly) false))] 0 67, [], [], []⟩) (ob := (True ∧ (True ∧ (((r4.2 == true) = true → True) ∧ (((r4.2 == true) = true → True) ∧ (((r4.2 == true) = true → (((((r4.2 == true) = true) ∧ True) ∧ ((((r4.2 == true) = true) ∧ True) ∧ (((0 : Int) ≤ r4.1) ∧ ((r4.1 < ((a0.map encTVar).length : Int)) ∧ (5 = 5))))) ∧ ((.cptr ((a0.map encTVar).getD (r4.1 : Int).toNat []) 0 : DV) = .cptr [.str ((a0.getD (r4.1 : Int).toNat default).fName), .str ((a0.getD (r4.1 : Int).toNat default).fValue), .bool ((a0.getD (r4.1 : Int).toNat default).fSet), .bool ((a0.getD (r4.1 : Int).toNat default).fExport), .bool ((a0.getD (r4.1 : Int).toNat default).fReadonly)] 0))) ∧ (((r4.2 == true) = true → ((((r4.2 == true) = true) ∧ True) ∧ (1 ≠ 0))) ∧ (((r4.2 == true) = true → ((((r4.2 == true) = true) ∧ True) ∧ (4 < 5))) ∧ ((True ∧ ((r4.2 = true → (((r4.2 == true) = true) ∧ True)) ∧ (r4.2 = false → True))) ∧ (True ∧ True)))))))))) (by kernel_rfl) ⟨trivial, ⟨trivial, ⟨(fun hg0 => trivial), ⟨(fun hg0 => trivial), ⟨(fun hg0 => ⟨⟨⟨hg0, trivial⟩, ⟨⟨hg0, trivial⟩, ⟨(o6 hg0), ⟨(lt_map (o7 hg0)), rfl⟩⟩⟩⟩, (congrArg (fun c => DV.cptr c 0) (getD_encI encTVar a0 (r4.1 : Int) (o6 hg0) (o7 hg0)))⟩), ⟨(fun hg0 => ⟨⟨hg0, trivial⟩, (by decide)⟩), ⟨(fun hg0 => ⟨⟨hg0, trivial⟩, (by decide)⟩), ⟨⟨trivial, ⟨(fun hg0 => ⟨(beqT hg0), trivial⟩), (fun hg0 => trivial)⟩⟩, ⟨trivial, trivial⟩⟩⟩⟩⟩⟩⟩⟩⟩ ?_
    refine AWp.cond (b := cond r4.2 ((a0.getD (r4.1 : Int).toNat default).fReadonly) false) (by kernel_rfl) trivial (fun c8 => ?_) (fun c8 => ?_)
    · have h := cond_t c8 h
      refine AWp.seqX [6, 7] (tg := [6, 30]) (H := []) (st' := ⟨sp [(6, .slice 5 (a0.map encTVar)), (7, .int .i64 11)] 0 67, [], [], []⟩) (ob := (True ∧ (True ∧ (True ∧ True)))) (by kernel_rfl) ⟨trivial, ⟨trivial, ⟨trivial, trivial⟩⟩⟩ ?_
      refine AWp.ret ?_
      obtain rfl := Option.some.inj h
      exact ⟨[.slice 5 (a0.map encTVar), .int .i64 11], (True ∧ (True ∧ True)), by kernel_rfl, ⟨trivial, ⟨trivial, trivial⟩⟩, by kernel_rfl, ⟨rfl, rfl, rfl⟩⟩
    · have h := cond_f c8 h
      refine AWp.seqX [0, 1, 2, 8, 9, 31] (tg := [31, 34]) (H := []) (st' := ⟨sp [(0, .slice 5 (a0.map encTVar)), (1, .str a1), (2, .str a2), (8, .int .i64 r4.1), (9, .bool r4.2), (31, .bool (decide (4096 < (a2.length : Int))))] 0 67, [], [], []⟩) (ob := (True ∧ ((True ∧ True) ∧ ((True ∧ (True ∧ (IntKind.i64 = IntKind.i64))) ∧ (True ∧ True))))) (by kernel_rfl) ⟨trivial, ⟨⟨trivial, trivial⟩, ⟨⟨trivial, ⟨trivial, rfl⟩⟩, ⟨trivial, trivial⟩⟩⟩⟩ ?_
      refine AWp.cond (b := decide (4096 < (a2.length : Int))) (by kernel_rfl) trivial (fun c9 => ?_) (fun c9 => ?_)
      · have h := cond_t c9 h
        refine AWp.seqX [6, 7] (tg := [6, 35]) (H := []) (st' := ⟨sp [(6, .slice 5 (a0.map encTVar)), (7, .int .i64 3)] 0 67, [], [], []⟩) (ob := (True ∧ (True ∧ (True ∧ True)))) (by kernel_rfl) ⟨trivial, ⟨trivial, ⟨trivial, trivial⟩⟩⟩ ?_
        refine AWp.ret ?_
        obtain rfl := Option.some.inj h
        exact ⟨[.slice 5 (a0.map encTVar), .int .i64 3], (True ∧ (True ∧ True)), by kernel_rfl, ⟨trivial, ⟨trivial, trivial⟩⟩, by kernel_rfl, ⟨rfl, rfl, rfl⟩⟩
      · have h := cond_f c9 h
        refine AWp.seqX [0, 1, 2, 8, 9, 36] (tg := [36, 43]) (H := [(41, .int .i64 (a0.length : Int))]) (st' := ⟨sp [(0, .slice 5 (a0.map encTVar)), (1, .str a1), (2, .str a2), (8, .int .i64 r4.1), (9, .bool r4.2), (36, .bool (cond (!r4.2) (decide (128 ≤ (a0.length : Int))) false))] 0 67, [], [], []⟩) (ob := (True ∧ (True ∧ (True ∧ ((((!r4.2) == true) = true → True) ∧ ((((!r4.2) == true) = true → ((((((!r4.2) == true) = true) ∧ True) ∧ True) ∧ ((.int .i64 ((a0.map encTVar).length : Int) : DV) = .int .i64 (a0.length : Int)))) ∧ ((((!r4.2) == true) = true → (((((!r4.2) == true) = true) ∧ True) ∧ (True ∧ (IntKind.i64 = IntKind.i64)))) ∧ ((True ∧ (((!r4.2) = true → ((((!r4.2) == true) = true) ∧ True)) ∧ ((!r4.2) = false → True))) ∧ (True ∧ True))))))))) (by kernel_rfl) ⟨trivial, ⟨trivial, ⟨trivial, ⟨(fun hg0 => trivial), ⟨(fun hg0 => ⟨⟨⟨hg0, trivial⟩, trivial⟩, (congrArg (fun n : Nat => DV.int .i64 n) (List.length_map _))⟩), ⟨(fun hg0 => ⟨⟨hg0, trivial⟩, ⟨trivial, rfl⟩⟩), ⟨⟨trivial, ⟨(fun hg0 => ⟨(beqT hg0), trivial⟩), (fun hg0 => trivial)⟩⟩, ⟨trivial, trivial⟩⟩⟩⟩⟩⟩⟩⟩ ?_
        refine AWp.cond (b := cond (!r4.2) (decide (128 ≤ (a0.length : Int))) false) (by kernel_rfl) trivial (fun c10 => ?_) (fun c10 => ?_)
        · have h := cond_t c10 h
          refine AWp.seqX [6, 7] (tg := [6, 44]) (H := []) (st' := ⟨sp [(6, .slice 5 (a0.map encTVar)), (7, .int .i64 4)] 0 67, [], [], []⟩) (ob := (True ∧ (True ∧ (True ∧ True)))) (by kernel_rfl) ⟨trivial, ⟨trivial, ⟨trivial, trivial⟩⟩⟩ ?_
          refine AWp.ret ?_
          obtain rfl := Option.some.inj h
          exact ⟨[.slice 5 (a0.map encTVar), .int .i64 4], (True ∧ (True ∧ True)), by kernel_rfl, ⟨trivial, ⟨trivial, trivial⟩⟩, by kernel_rfl, ⟨rfl, rfl, rfl⟩⟩
        · have h := cond_f c10 h
          refine AWp.seqX [0, 1, 2, 8, 45] (tg := [45, 47]) (H := []) (st' := ⟨sp [(0, .slice 5 (a0.map encTVar)), (1, .str a1), (2, .str a2), (8, .int .i64 r4.1), (45, .bool (!r4.2))] 0 67, [], [], []⟩) (ob := (True ∧ (True ∧ (True ∧ True)))) (by kernel_rfl) ⟨trivial, ⟨trivial, ⟨trivial, trivial⟩⟩⟩ ?_
          refine AWp.cond (b := !r4.2) (by kernel_rfl) trivial (fun c11 => ?_) (fun c11 => ?_)
          · have h := cond_t c11 h
            refine AWp.seqO ?_
            refine AOps.runK [48, 49, 53] 6 (tg := [6, 54]) (H := [(53, .slice 5 ([(TVar.mk a1 a2 true false false)].map encTVar))]) (st' := ⟨sp [(48, .slice 5 (a0.map encTVar)), (49, .int .i64 r4.1), (53, .slice 5 ([(TVar.mk a1 a2 true false false)].map encTVar))] 0 67, [], [], []⟩) (ob := (True ∧ (True ∧ (True ∧ (True ∧ ((True ∧ ((true = true) ∧ (True ∧ ((true = true) ∧ (True ∧ ((true = true) ∧ (true = true))))))) ∧ ((((true = true) ∧ (True ∧ ((true = true) ∧ True))) ∧ ((.slice 5 [[.str a1, .str a2, .bool true, .bool false, .bool false]] : DV) = .slice 5 ([(TVar.mk a1 a2 true false false)].map encTVar))) ∧ True))))))) (by kernel_rfl) ⟨trivial, ⟨trivial, ⟨trivial, ⟨trivial, ⟨⟨trivial, ⟨rfl, ⟨trivial, ⟨rfl, ⟨trivial, ⟨rfl, rfl⟩⟩⟩⟩⟩⟩, ⟨⟨⟨rfl, ⟨trivial, ⟨rfl, trivial⟩⟩⟩, rfl⟩, trivial⟩⟩⟩⟩⟩⟩ ?_
            obtain ⟨r12, e13, h⟩ := bind_some h
            refine AOps.call1 (ds := [.slice 5 (a0.map encTVar), .int .i64 r4.1, .int .i64 0, .slice 5 ([(TVar.mk a1 a2 true false false)].map encTVar)]) (d := .slice 5 (r12.map encTVar)) (ow := [⟨.slot 0, 26, 5⟩]) (st' := ⟨sp [(48, .slice 5 (a0.map encTVar)), (49, .int .i64 r4.1), (53, .slice 5 ([(TVar.mk a1 a2 true false false)].map encTVar)), (54, .slice 5 (r12.map encTVar))] 0 67, [], [], [⟨.slot 54, 26, 5⟩]⟩) (by kernel_rfl) fk35 (by kernel_rfl) ⟨trivial, ⟨trivial, ⟨trivial, ⟨trivial, trivial⟩⟩⟩⟩ (by kernel_rfl) (vars_splice_ok a0 r4.1 0 [(TVar.mk a1 a2 true false false)] r12 e13) (by kernel_rfl) ?_
            refine AOps.runK [6, 7] 2 (tg := [6, 54]) (H := []) (st' := ⟨sp [(6, .slice 5 (r12.map encTVar)), (7, .int .i64 0)] 0 67, [], [], [⟨.slot 6, 26, 5⟩]⟩) (ob := (True ∧ (True ∧ True))) (by kernel_rfl) ⟨trivial, ⟨trivial, trivial⟩⟩ ?_
            refine AOps.done ?_
            refine AWp.ret ?_
            obtain rfl := Option.some.inj h
            exact ⟨[.slice 5 (r12.map encTVar), .int .i64 0], (True ∧ (True ∧ True)), by kernel_rfl, ⟨trivial, ⟨trivial, trivial⟩⟩, by kernel_rfl, ⟨rfl, rfl, rfl⟩⟩
          · have h := cond_f c11 h
            refine AWp.skip ?_
            obtain ⟨⟨o14, o15⟩, h⟩ := req_some h
            refine AWp.seqX [0, 2, 8, 10] (tg := [58]) (H := [(57, .cptr [.str ((a0.getD (r4.1 : Int).toNat default).fName), .str ((a0.getD (r4.1 : Int).toNat default).fValue), .bool ((a0.getD (r4.1 : Int).toNat default).fSet), .bool ((a0.getD (r4.1 : Int).toNat default).fExport), .bool ((a0.getD (r4.1 : Int).toNat default).fReadonly)] 0)]) (st' := ⟨sp [(0, .slice 5 (a0.map encTVar)), (2, .str a2), (8, .int .i64 r4.1), (10, .ptr true 0 0)] 0 67, [.cells 26 [.str ((a0.getD (r4.1 : Int).toNat default).fName), .str ((a0.getD (r4.1 : Int).toNat default).fValue), .bool ((a0.getD (r4.1 : Int).toNat default).fSet), .bool ((a0.getD (r4.1 : Int).toNat default).fExport), .bool ((a0.getD (r4.1 : Int).toNat default).fReadonly)]], [], []⟩) (ob := (True ∧ (True ∧ (((True ∧ (True ∧ (((0 : Int) ≤ r4.1) ∧ ((r4.1 < ((a0.map encTVar).length : Int)) ∧ (5 = 5))))) ∧ ((.cptr ((a0.map encTVar).getD (r4.1 : Int).toNat []) 0 : DV) = .cptr [.str ((a0.getD (r4.1 : Int).toNat default).fName), .str ((a0.getD (r4.1 : Int).toNat default).fValue), .bool ((a0.getD (r4.1 : Int).toNat default).fSet), .bool ((a0.getD (r4.1 : Int).toNat default).fExport), .bool ((a0.getD (r4.1 : Int).toNat default).fReadonly)] 0)) ∧ ((True ∧ (0 + 5 ≤ 5)) ∧ ((true = true) ∧ ((True ∧ (True ∧ ((true = true) ∧ (0 + 5 ≤ 5)))) ∧ True))))))) (by kernel_rfl) ⟨trivial, ⟨trivial, ⟨⟨⟨trivial, ⟨trivial, ⟨o14, ⟨(lt_map o15), rfl⟩⟩⟩⟩, (congrArg (fun c => DV.cptr c 0) (getD_encI encTVar a0 (r4.1 : Int) o14 o15))⟩, ⟨⟨trivial, (by decide)⟩, ⟨rfl, ⟨⟨trivial, ⟨trivial, ⟨rfl, (by decide)⟩⟩⟩, trivial⟩⟩⟩⟩⟩⟩ ?_
            refine AWp.seqX [0, 8, 10] (tg := [59]) (H := []) (st' := ⟨sp [(0, .slice 5 (a0.map encTVar)), (8, .int .i64 r4.1), (10, .ptr true 0 0)] 0 67, [.cells 26 [.str ((a0.getD (r4.1 : Int).toNat default).fName), .str a2, .bool true, .bool ((a0.getD (r4.1 : Int).toNat default).fExport), .bool ((a0.getD (r4.1 : Int).toNat default).fReadonly)]], [], []⟩) (ob := (True ∧ ((True ∧ (1 ≠ 0)) ∧ ((True ∧ (True ∧ ((true = true) ∧ (1 + 1 ≤ 5)))) ∧ ((True ∧ (1 ≠ 0)) ∧ ((True ∧ (True ∧ ((true = true) ∧ (2 + 1 ≤ 5)))) ∧ True)))))) (by kernel_rfl) ⟨trivial, ⟨⟨trivial, (by decide)⟩, ⟨⟨trivial, ⟨trivial, ⟨rfl, (by decide)⟩⟩⟩, ⟨⟨trivial, (by decide)⟩, ⟨⟨trivial, ⟨trivial, ⟨rfl, (by decide)⟩⟩⟩, trivial⟩⟩⟩⟩⟩ ?_
            refine AWp.seqO ?_
            refine AOps.runK [62, 63, 65] 4 (tg := [6, 66]) (H := [(65, .slice 5 ([(TVar.mk ((a0.getD (r4.1 : Int).toNat default).fName) a2 true ((a0.getD (r4.1 : Int).toNat default).fExport) ((a0.getD (r4.1 : Int).toNat default).fReadonly))].map encTVar))]) (st' := ⟨sp [(62, .slice 5 (a0.map encTVar)), (63, .int .i64 r4.1), (65, .slice 5 ([(TVar.mk ((a0.getD (r4.1 : Int).toNat default).fName) a2 true ((a0.getD (r4.1 : Int).toNat default).fExport) ((a0.getD (r4.1 : Int).toNat default).fReadonly))].map encTVar))] 0 67, [.cells 26 [.str ((a0.getD (r4.1 : Int).toNat default).fName), .str a2, .bool true, .bool ((a0.getD (r4.1 : Int).toNat default).fExport), .bool ((a0.getD (r4.1 : Int).toNat default).fReadonly)]], [], []⟩) (ob := (True ∧ (True ∧ ((True ∧ (0 + 5 ≤ 5)) ∧ ((((true = true) ∧ (True ∧ ((true = true) ∧ True))) ∧ ((.slice 5 [[.str ((a0.getD (r4.1 : Int).toNat default).fName), .str a2, .bool true, .bool ((a0.getD (r4.1 : Int).toNat default).fExport), .bool ((a0.getD (r4.1 : Int).toNat default).fReadonly)]] : DV) = .slice 5 ([(TVar.mk ((a0.getD (r4.1 : Int).toNat default).fName) a2 true ((a0.getD (r4.1 : Int).toNat default).fExport) ((a0.getD (r4.1 : Int).toNat default).fReadonly))].map encTVar))) ∧ True))))) (by kernel_rfl) ⟨trivial, ⟨trivial, ⟨⟨trivial, (by decide)⟩, ⟨⟨⟨rfl, ⟨trivial, ⟨rfl, trivial⟩⟩⟩, rfl⟩, trivial⟩⟩⟩⟩ ?_
            obtain ⟨r16, e17, h⟩ := bind_some h
            refine AOps.call1 (ds := [.slice 5 (a0.map encTVar), .int .i64 r4.1, .int .i64 1, .slice 5 ([(TVar.mk ((a0.getD (r4.1 : Int).toNat default).fName) a2 true ((a0.getD (r4.1 : Int).toNat default).fExport) ((a0.getD (r4.1 : Int).toNat default).fReadonly))].map encTVar)]) (d := .slice 5 (r16.map encTVar)) (ow := [⟨.slot 0, 26, 5⟩]) (st' := ⟨sp [(62, .slice 5 (a0.map encTVar)), (63, .int .i64 r4.1), (65, .slice 5 ([(TVar.mk ((a0.getD (r4.1 : Int).toNat default).fName) a2 true ((a0.getD (r4.1 : Int).toNat default).fExport) ((a0.getD (r4.1 : Int).toNat default).fReadonly))].map encTVar)), (66, .slice 5 (r16.map encTVar))] 0 67, [.cells 26 [.str ((a0.getD (r4.1 : Int).toNat default).fName), .str a2, .bool true, .bool ((a0.getD (r4.1 : Int).toNat default).fExport), .bool ((a0.getD (r4.1 : Int).toNat default).fReadonly)]], [], [⟨.slot 66, 26, 5⟩]⟩) (by kernel_rfl) fk35 (by kernel_rfl) ⟨trivial, ⟨trivial, ⟨trivial, ⟨trivial, trivial⟩⟩⟩⟩ (by kernel_rfl) (vars_splice_ok a0 r4.1 1 [(TVar.mk ((a0.getD (r4.1 : Int).toNat default).fName) a2 true ((a0.getD (r4.1 : Int).toNat default).fExport) ((a0.getD (r4.1 : Int).toNat default).fReadonly))] r16 e17) (by kernel_rfl) ?_
            refine AOps.runK [6, 7] 2 (tg := [6, 66]) (H := []) (st' := ⟨sp [(6, .slice 5 (r16.map encTVar)), (7, .int .i64 0)] 0 67, [.cells 26 [.str ((a0.getD (r4.1 : Int).toNat default).fName), .str a2, .bool true, .bool ((a0.getD (r4.1 : Int).toNat default).fExport), .bool ((a0.getD (r4.1 : Int).toNat default).fReadonly)]], [], [⟨.slot 6, 26, 5⟩]⟩) (ob := (True ∧ (True ∧ True))) (by kernel_rfl) ⟨trivial, ⟨trivial, trivial⟩⟩ ?_
            refine AOps.done ?_
            refine AWp.ret ?_
            obtain rfl := Option.some.inj h
            exact ⟨[.slice 5 (r16.map encTVar), .int .i64 0], (True ∧ (True ∧ True)), by kernel_rfl, ⟨trivial, ⟨trivial, trivial⟩⟩, by kernel_rfl, ⟨rfl, rfl, rfl⟩⟩
def vars_Unset (fuel : Nat) (a0 : List TVar) (a1 : List UInt8) : Option ((List TVar) × Int) :=
  (vars_place fuel a0 a1).bind (fun r1 =>
    cond (!r1.2) (
      some (a0, 0)) (
      req (((0 : Int) ≤ r1.1) ∧ (r1.1 < (a0.length : Int))) (
        cond ((a0.getD (r1.1 : Int).toNat default).fReadonly) (
          some (a0, 11)) (
          (vars_splice a0 r1.1 1 []).bind (fun r7 =>
            some (r7, 0))))))
theorem vars_Unset_ok (fuel : Nat) (a0 : List TVar) (a1 : List UInt8) (r : (List TVar) × Int) (h : vars_Unset fuel a0 a1 = some r) : ACalls Try.prog 28 [.slice 5 (a0.map encTVar), .str a1] [] (fun q => q = ⟨.tuple [.slice 5 (r.1.map encTVar), .int .i64 r.2], [], [], []⟩) := by
  unfold vars_Unset at h
  refine ACalls.noown ?_
  refine ACalls.intro (fn := Try.f28) Try.func28 rfl ?_
  refine AWp.keep [0, 1] (st' := ⟨sp [(0, .slice 5 (a0.map encTVar)), (1, .str a1)] 0 28, [], [], []⟩) (by kernel_rfl) ?_
  refine AWp.seqX [0, 1] (tg := []) (H := []) (st' := ⟨sp [(0, .slice 5 (a0.map encTVar)), (1, .str a1)] 0 28, [], [], []⟩) (ob := (True ∧ (True ∧ True))) (by kernel_rfl) ⟨trivial, ⟨trivial, trivial⟩⟩ ?_
  refine AWp.seqO ?_
  refine AOps.runK [0, 9, 10] 2 (tg := [6, 7, 12, 13]) (H := []) (st' := ⟨sp [(0, .slice 5 (a0.map encTVar)), (9, .slice 5 (a0.map encTVar)), (10, .str a1)] 0 28, [], [], []⟩) (ob := (True ∧ (True ∧ True))) (by kernel_rfl) ⟨trivial, ⟨trivial, trivial⟩⟩ ?_
  obtain ⟨r1, e2, h⟩ := bind_some h
  refine AOps.call1 (ds := [.slice 5 (a0.map encTVar), .str a1]) (d := .tuple [.int .i64 r1.1, .bool r1.2]) (ow := []) (st' := ⟨sp [(0, .slice 5 (a0.map encTVar)), (9, .slice 5 (a0.map encTVar)), (10, .str a1), (11, .tuple [.int .i64 r1.1, .bool r1.2])] 0 28, [], [], []⟩) (by kernel_rfl) fk34 (by kernel_rfl) ⟨trivial, ⟨trivial, trivial⟩⟩ (by kernel_rfl) (vars_place_ok fuel a0 a1 r1 e2) (by kernel_rfl) ?_
  refine AOps.runK [0, 6, 7] 5 (tg := [6, 7, 12, 13]) (H := []) (st' := ⟨sp [(0, .slice 5 (a0.map encTVar)), (6, .int .i64 r1.1), (7, .bool r1.2)] 0 28, [], [], []⟩) (ob := (True ∧ ((True ∧ (0 < 2)) ∧ ((True ∧ (1 < 2)) ∧ (True ∧ (True ∧ True)))))) (by kernel_rfl) ⟨trivial, ⟨⟨trivial, (by decide)⟩, ⟨⟨trivial, (by decide)⟩, ⟨trivial, ⟨trivial, trivial⟩⟩⟩⟩⟩ ?_
  refine AOps.done ?_
  refine AWp.seq ?_
  refine AWp.block ?_
  refine AWp.seqX [0, 6, 14] (tg := [14, 16]) (H := []) (st' := ⟨sp [(0, .slice 5 (a0.map encTVar)), (6, .int .i64 r1.1), (14, .bool (!r1.2))] 0 28, [], [], []⟩) (ob := (True ∧ (True ∧ (True ∧ True)))) (by kernel_rfl) ⟨trivial, ⟨trivial, ⟨trivial, trivial⟩⟩⟩ ?_
  refine AWp.cond (b := !r1.2) (by kernel_rfl) trivial (fun c3 => ?_) (fun c3 => ?_)
  · have h := cond_t c3 h
    refine AWp.seqX [4, 5] (tg := [4, 17]) (H := []) (st' := ⟨sp [(4, .slice 5 (a0.map encTVar)), (5, .int .i64 0)] 0 28, [], [], []⟩) (ob := (True ∧ (True ∧ (True ∧ True)))) (by kernel_rfl) ⟨trivial, ⟨trivial, ⟨trivial, trivial⟩⟩⟩ ?_
    refine AWp.ret ?_
    obtain rfl := Option.some.inj h
    exact ⟨[.slice 5 (a0.map encTVar), .int .i64 0], (True ∧ (True ∧ True)), by kernel_rfl, ⟨trivial, ⟨trivial, trivial⟩⟩, by kernel_rfl, ⟨rfl, rfl, rfl⟩⟩
  · have h := cond_f c3 h
    obtain ⟨⟨o4, o5⟩, h⟩ := req_some h
    refine AWp.seqX [0, 6, 18] (tg := [18, 23]) (H := [(21, .cptr [.str ((a0.getD (r1.1 : Int).toNat default).fName), .str ((a0.getD (r1.1 : Int).toNat default).fValue), .bool ((a0.getD (r1.1 : Int).toNat default).fSet), .bool ((a0.getD (r1.1 : Int).toNat default).fExport), .bool ((a0.getD (r1.1 : Int).toNat default).fReadonly)] 0)]) (st' := ⟨sp [(0, .slice 5 (a0.map encTVar)), (6, .int .i64 r1.1), (18, .bool ((a0.getD (r1.1 : Int).toNat default).fReadonly))] 0 28, [], [], []⟩) (ob := (True ∧ (True ∧ (((True ∧ (True ∧ (((0 : Int) ≤ r1.1) ∧ ((r1.1 < ((a0.map encTVar).length : Int)) ∧ (5 = 5))))) ∧ ((.cptr ((a0.map encTVar).getD (r1.1 : Int).toNat []) 0 : DV) = .cptr [.str ((a0.getD (r1.1 : Int).toNat default).fName), .str ((a0.getD (r1.1 : Int).toNat default).fValue), .bool ((a0.getD (r1.1 : Int).toNat default).fSet), .bool ((a0.getD (r1.1 : Int).toNat default).fExport), .bool ((a0.getD (r1.1 : Int).toNat default).fReadonly)] 0)) ∧ ((True ∧ (1 ≠ 0)) ∧ ((True ∧ (4 < 5)) ∧ (True ∧ True))))))) (by kernel_rfl) ⟨trivial, ⟨trivial, ⟨⟨⟨trivial, ⟨trivial, ⟨o4, ⟨(lt_map o5), rfl⟩⟩⟩⟩, (congrArg (fun c => DV.cptr c 0) (getD_encI encTVar a0 (r1.1 : Int) o4 o5))⟩, ⟨⟨trivial, (by decide)⟩, ⟨⟨trivial, (by decide)⟩, ⟨trivial, trivial⟩⟩⟩⟩⟩⟩ ?_
    refine AWp.cond (b := (a0.getD (r1.1 : Int).toNat default).fReadonly) (by kernel_rfl) trivial (fun c6 => ?_) (fun c6 => ?_)
    · have h := cond_t c6 h
      refine AWp.seqX [4, 5] (tg := [4, 24]) (H := []) (st' := ⟨sp [(4, .slice 5 (a0.map encTVar)), (5, .int .i64 11)] 0 28, [], [], []⟩) (ob := (True ∧ (True ∧ (True ∧ True)))) (by kernel_rfl) ⟨trivial, ⟨trivial, ⟨trivial, trivial⟩⟩⟩ ?_
      refine AWp.ret ?_
      obtain rfl := Option.some.inj h
      exact ⟨[.slice 5 (a0.map encTVar), .int .i64 11], (True ∧ (True ∧ True)), by kernel_rfl, ⟨trivial, ⟨trivial, trivial⟩⟩, by kernel_rfl, ⟨rfl, rfl, rfl⟩⟩
    · have h := cond_f c6 h
      refine AWp.skip ?_
      refine AWp.seqO ?_
      refine AOps.runK [25, 26] 2 (tg := [4, 27]) (H := []) (st' := ⟨sp [(25, .slice 5 (a0.map encTVar)), (26, .int .i64 r1.1)] 0 28, [], [], []⟩) (ob := (True ∧ (True ∧ True))) (by kernel_rfl) ⟨trivial, ⟨trivial, trivial⟩⟩ ?_
      obtain ⟨r7, e8, h⟩ := bind_some h
      refine AOps.call1 (ds := [.slice 5 (a0.map encTVar), .int .i64 r1.1, .int .i64 1, .val (.slice none 0 0)]) (d := .slice 5 (r7.map encTVar)) (ow := [⟨.slot 0, 26, 5⟩]) (st' := ⟨sp [(25, .slice 5 (a0.map encTVar)), (26, .int .i64 r1.1), (27, .slice 5 (r7.map encTVar))] 0 28, [], [], [⟨.slot 27, 26, 5⟩]⟩) (by kernel_rfl) fk35 (by kernel_rfl) ⟨trivial, ⟨trivial, ⟨trivial, ⟨trivial, trivial⟩⟩⟩⟩ (by kernel_rfl) (ACalls.nils (vars_splice_ok a0 r1.1 1 [] r7 e8) ⟨.inl rfl, ⟨.inl rfl, ⟨.inl rfl, ⟨.inr ⟨rfl, _, rfl⟩, trivial⟩⟩⟩⟩) (by kernel_rfl) ?_
      refine AOps.runK [4, 5] 2 (tg := [4, 27]) (H := []) (st' := ⟨sp [(4, .slice 5 (r7.map encTVar)), (5, .int .i64 0)] 0 28, [], [], [⟨.slot 4, 26, 5⟩]⟩) (ob := (True ∧ (True ∧ True))) (by kernel_rfl) ⟨trivial, ⟨trivial, trivial⟩⟩ ?_
      refine AOps.done ?_
      refine AWp.ret ?_
      obtain rfl := Option.some.inj h
      exact ⟨[.slice 5 (r7.map encTVar), .int .i64 0], (True ∧ (True ∧ True)), by kernel_rfl, ⟨trivial, ⟨trivial, trivial⟩⟩, by kernel_rfl, ⟨rfl, rfl, rfl⟩⟩
def vars_Mark (fuel : Nat) (a0 : List TVar) (a1 : List UInt8) (a2 : Bool) (a3 : Bool) : Option ((List TVar) × Int) :=
  (chars_Name fuel a1).bind (fun r1 =>
    cond (!r1) (
      some (a0, 10)) (
      (vars_place fuel a0 a1).bind (fun r4 =>
        cond (!r4.2) (
          cond (decide (128 ≤ (a0.length : Int))) (
            some (a0, 4)) (
            (vars_splice a0 r4.1 0 [(TVar.mk a1 [] false a2 a3)]).bind (fun r8 =>
              some (r8, 0)))) (
          req (((0 : Int) ≤ r4.1) ∧ (r4.1 < (a0.length : Int))) (
            (vars_splice a0 r4.1 1 [(TVar.mk ((a0.getD (r4.1 : Int).toNat default).fName) ((a0.getD (r4.1 : Int).toNat default).fValue) ((a0.getD (r4.1 : Int).toNat default).fSet) (cond ((a0.getD (r4.1 : Int).toNat default).fExport) true a2) (cond ((a0.getD (r4.1 : Int).toNat default).fReadonly) true a3))]).bind (fun r12 =>
              some (r12, 0)))))))
theorem vars_Mark_ok (fuel : Nat) (a0 : List TVar) (a1 : List UInt8) (a2 : Bool) (a3 : Bool) (r : (List TVar) × Int) (h : vars_Mark fuel a0 a1 a2 a3 = some r) : ACalls Try.prog 20 [.slice 5 (a0.map encTVar), .str a1, .bool a2, .bool a3] [] (fun q => q = ⟨.tuple [.slice 5 (r.1.map encTVar), .int .i64 r.2], [], [], []⟩) := by
  unfold vars_Mark at h
  refine ACalls.noown ?_
  refine ACalls.intro (fn := Try.f20) Try.func20 rfl ?_
  refine AWp.keep [0, 1, 2, 3] (st' := ⟨sp [(0, .slice 5 (a0.map encTVar)), (1, .str a1), (2, .bool a2), (3, .bool a3)] 0 58, [], [], []⟩) (by kernel_rfl) ?_
  refine AWp.seqX [0, 1, 2, 3] (tg := []) (H := []) (st' := ⟨sp [(0, .slice 5 (a0.map encTVar)), (1, .str a1), (2, .bool a2), (3, .bool a3)] 0 58, [], [], []⟩) (ob := (True ∧ (True ∧ True))) (by kernel_rfl) ⟨trivial, ⟨trivial, trivial⟩⟩ ?_
  refine AWp.seq ?_
  refine AWp.seqO ?_
  refine AOps.runK [0, 1, 2, 3, 13] 1 (tg := []) (H := []) (st' := ⟨sp [(0, .slice 5 (a0.map encTVar)), (1, .str a1), (2, .bool a2), (3, .bool a3), (13, .str a1)] 0 58, [], [], []⟩) (ob := (True ∧ True)) (by kernel_rfl) ⟨trivial, trivial⟩ ?_
  obtain ⟨r1, e2, h⟩ := bind_some h
  refine AOps.call1 (ds := [.str a1]) (d := .bool r1) (ow := []) (st' := ⟨sp [(0, .slice 5 (a0.map encTVar)), (1, .str a1), (2, .bool a2), (3, .bool a3), (13, .str a1), (14, .bool r1)] 0 58, [], [], []⟩) (by kernel_rfl) fk32 (by kernel_rfl) ⟨trivial, trivial⟩ (by kernel_rfl) (chars_Name_ok fuel a1 r1 e2) (by kernel_rfl) ?_
  refine AOps.runK [0, 1, 2, 3, 15] 1 (tg := []) (H := []) (st' := ⟨sp [(0, .slice 5 (a0.map encTVar)), (1, .str a1), (2, .bool a2), (3, .bool a3), (15, .bool (!r1))] 0 58, [], [], []⟩) (ob := (True ∧ True)) (by kernel_rfl) ⟨trivial, trivial⟩ ?_
  refine AOps.done ?_
  refine AWp.cond (b := !r1) (by kernel_rfl) trivial (fun c3 => ?_) (fun c3 => ?_)
  · have h := cond_t c3 h
    refine AWp.seqX [8, 9] (tg := [8, 16]) (H := []) (st' := ⟨sp [(8, .slice 5 (a0.map encTVar)), (9, .int .i64 10)] 0 58, [], [], []⟩) (ob := (True ∧ (True ∧ (True ∧ True)))) (by kernel_rfl) ⟨trivial, ⟨trivial, ⟨trivial, trivial⟩⟩⟩ ?_
    refine AWp.ret ?_
    obtain rfl := Option.some.inj h
    exact ⟨[.slice 5 (a0.map encTVar), .int .i64 10], (True ∧ (True ∧ True)), by kernel_rfl, ⟨trivial, ⟨trivial, trivial⟩⟩, by kernel_rfl, ⟨rfl, rfl, rfl⟩⟩
  · have h := cond_f c3 h
    refine AWp.skip ?_
    refine AWp.seqO ?_
    refine AOps.runK [0, 1, 2, 3, 18, 19] 2 (tg := [10, 11, 21, 22]) (H := []) (st' := ⟨sp [(0, .slice 5 (a0.map encTVar)), (1, .str a1), (2, .bool a2), (3, .bool a3), (18, .slice 5 (a0.map encTVar)), (19, .str a1)] 0 58, [], [], []⟩) (ob := (True ∧ (True ∧ True))) (by kernel_rfl) ⟨trivial, ⟨trivial, trivial⟩⟩ ?_
    obtain ⟨r4, e5, h⟩ := bind_some h
    refine AOps.call1 (ds := [.slice 5 (a0.map encTVar), .str a1]) (d := .tuple [.int .i64 r4.1, .bool r4.2]) (ow := []) (st' := ⟨sp [(0, .slice 5 (a0.map encTVar)), (1, .str a1), (2, .bool a2), (3, .bool a3), (18, .slice 5 (a0.map encTVar)), (19, .str a1), (20, .tuple [.int .i64 r4.1, .bool r4.2])] 0 58, [], [], []⟩) (by kernel_rfl) fk34 (by kernel_rfl) ⟨trivial, ⟨trivial, trivial⟩⟩ (by kernel_rfl) (vars_place_ok fuel a0 a1 r4 e5) (by kernel_rfl) ?_
    refine AOps.runK [0, 1, 2, 3, 10, 11] 5 (tg := [10, 11, 21, 22]) (H := []) (st' := ⟨sp [(0, .slice 5 (a0.map encTVar)), (1, .str a1), (2, .bool a2), (3, .bool a3), (10, .int .i64 r4.1), (11, .bool r4.2)] 0 58, [], [], []⟩) (ob := (True ∧ ((True ∧ (0 < 2)) ∧ ((True ∧ (1 < 2)) ∧ (True ∧ (True ∧ True)))))) (by kernel_rfl) ⟨trivial, ⟨⟨trivial, (by decide)⟩, ⟨⟨trivial, (by decide)⟩, ⟨trivial, ⟨trivial, trivial⟩⟩⟩⟩⟩ ?_
    refine AOps.done ?_
    refine AWp.seq ?_
    refine AWp.seqX [0, 1, 2, 3, 10, 24] (tg := []) (H := []) (st' := ⟨sp [(0, .slice 5 (a0.map encTVar)), (1, .str a1), (2, .bool a2), (3, .bool a3), (10, .int .i64 r4.1), (24, .bool (!r4.2))] 0 58, [], [], []⟩) (ob := (True ∧ (True ∧ True))) (by kernel_rfl) ⟨trivial, ⟨trivial, trivial⟩⟩ ?_
    refine AWp.cond (b := !r4.2) (by kernel_rfl) trivial (fun c6 => ?_) (fun c6 => ?_)
    · have h := cond_t c6 h
      refine AWp.seq ?_
      refine AWp.seqX [0, 1, 2, 3, 10, 27] (tg := []) (H := [(26, .int .i64 (a0.length : Int))]) (st' := ⟨sp [(0, .slice 5 (a0.map encTVar)), (1, .str a1), (2, .bool a2), (3, .bool a3), (10, .int .i64 r4.1), (27, .bool (decide (128 ≤ (a0.length : Int))))] 0 58, [], [], []⟩) (ob := (True ∧ (((True ∧ True) ∧ ((.int .i64 ((a0.map encTVar).length : Int) : DV) = .int .i64 (a0.length : Int))) ∧ ((True ∧ (True ∧ (IntKind.i64 = IntKind.i64))) ∧ True)))) (by kernel_rfl) ⟨trivial, ⟨⟨⟨trivial, trivial⟩, (congrArg (fun n : Nat => DV.int .i64 n) (List.length_map _))⟩, ⟨⟨trivial, ⟨trivial, rfl⟩⟩, trivial⟩⟩⟩ ?_
      refine AWp.cond (b := decide (128 ≤ (a0.length : Int))) (by kernel_rfl) trivial (fun c7 => ?_) (fun c7 => ?_)
      · have h := cond_t c7 h
        refine AWp.seqX [8, 9] (tg := [8, 28]) (H := []) (st' := ⟨sp [(8, .slice 5 (a0.map encTVar)), (9, .int .i64 4)] 0 58, [], [], []⟩) (ob := (True ∧ (True ∧ (True ∧ True)))) (by kernel_rfl) ⟨trivial, ⟨trivial, ⟨trivial, trivial⟩⟩⟩ ?_
        refine AWp.ret ?_
        obtain rfl := Option.some.inj h
        exact ⟨[.slice 5 (a0.map encTVar), .int .i64 4], (True ∧ (True ∧ True)), by kernel_rfl, ⟨trivial, ⟨trivial, trivial⟩⟩, by kernel_rfl, ⟨rfl, rfl, rfl⟩⟩
      · have h := cond_f c7 h
        refine AWp.skip ?_
        refine AWp.seqO ?_
        refine AOps.runK [29, 30, 35] 7 (tg := [8, 36]) (H := [(35, .slice 5 ([(TVar.mk a1 [] false a2 a3)].map encTVar))]) (st' := ⟨sp [(29, .slice 5 (a0.map encTVar)), (30, .int .i64 r4.1), (35, .slice 5 ([(TVar.mk a1 [] false a2 a3)].map encTVar))] 0 58, [], [], []⟩) (ob := (True ∧ (True ∧ (True ∧ (True ∧ (True ∧ ((True ∧ ((true = true) ∧ (True ∧ ((true = true) ∧ (True ∧ ((true = true) ∧ (true = true))))))) ∧ ((((true = true) ∧ (True ∧ ((true = true) ∧ True))) ∧ ((.slice 5 [[.str a1, .str [], .bool false, .bool a2, .bool a3]] : DV) = .slice 5 ([(TVar.mk a1 [] false a2 a3)].map encTVar))) ∧ True)))))))) (by kernel_rfl) ⟨trivial, ⟨trivial, ⟨trivial, ⟨trivial, ⟨trivial, ⟨⟨trivial, ⟨rfl, ⟨trivial, ⟨rfl, ⟨trivial, ⟨rfl, rfl⟩⟩⟩⟩⟩⟩, ⟨⟨⟨rfl, ⟨trivial, ⟨rfl, trivial⟩⟩⟩, rfl⟩, trivial⟩⟩⟩⟩⟩⟩⟩ ?_
        obtain ⟨r8, e9, h⟩ := bind_some h
        refine AOps.call1 (ds := [.slice 5 (a0.map encTVar), .int .i64 r4.1, .int .i64 0, .slice 5 ([(TVar.mk a1 [] false a2 a3)].map encTVar)]) (d := .slice 5 (r8.map encTVar)) (ow := [⟨.slot 0, 26, 5⟩]) (st' := ⟨sp [(29, .slice 5 (a0.map encTVar)), (30, .int .i64 r4.1), (35, .slice 5 ([(TVar.mk a1 [] false a2 a3)].map encTVar)), (36, .slice 5 (r8.map encTVar))] 0 58, [], [], [⟨.slot 36, 26, 5⟩]⟩) (by kernel_rfl) fk35 (by kernel_rfl) ⟨trivial, ⟨trivial, ⟨trivial, ⟨trivial, trivial⟩⟩⟩⟩ (by kernel_rfl) (vars_splice_ok a0 r4.1 0 [(TVar.mk a1 [] false a2 a3)] r8 e9) (by kernel_rfl) ?_
        refine AOps.runK [8, 9] 2 (tg := [8, 36]) (H := []) (st' := ⟨sp [(8, .slice 5 (r8.map encTVar)), (9, .int .i64 0)] 0 58, [], [], [⟨.slot 8, 26, 5⟩]⟩) (ob := (True ∧ (True ∧ True))) (by kernel_rfl) ⟨trivial, ⟨trivial, trivial⟩⟩ ?_
        refine AOps.done ?_
        refine AWp.ret ?_
        obtain rfl := Option.some.inj h
        exact ⟨[.slice 5 (r8.map encTVar), .int .i64 0], (True ∧ (True ∧ True)), by kernel_rfl, ⟨trivial, ⟨trivial, trivial⟩⟩, by kernel_rfl, ⟨rfl, rfl, rfl⟩⟩
    · have h := cond_f c6 h
      refine AWp.skip ?_
      obtain ⟨⟨o10, o11⟩, h⟩ := req_some h
      refine AWp.seqX [0, 2, 3, 10, 12] (tg := [40]) (H := [(39, .cptr [.str ((a0.getD (r4.1 : Int).toNat default).fName), .str ((a0.getD (r4.1 : Int).toNat default).fValue), .bool ((a0.getD (r4.1 : Int).toNat default).fSet), .bool ((a0.getD (r4.1 : Int).toNat default).fExport), .bool ((a0.getD (r4.1 : Int).toNat default).fReadonly)] 0)]) (st' := ⟨sp [(0, .slice 5 (a0.map encTVar)), (2, .bool a2), (3, .bool a3), (10, .int .i64 r4.1), (12, .ptr true 0 0)] 0 58, [.cells 26 [.str ((a0.getD (r4.1 : Int).toNat default).fName), .str ((a0.getD (r4.1 : Int).toNat default).fValue), .bool ((a0.getD (r4.1 : Int).toNat default).fSet), .bool ((a0.getD (r4.1 : Int).toNat default).fExport), .bool ((a0.getD (r4.1 : Int).toNat default).fReadonly)]], [], []⟩) (ob := (True ∧ (True ∧ (((True ∧ (True ∧ (((0 : Int) ≤ r4.1) ∧ ((r4.1 < ((a0.map encTVar).length : Int)) ∧ (5 = 5))))) ∧ ((.cptr ((a0.map encTVar).getD (r4.1 : Int).toNat []) 0 : DV) = .cptr [.str ((a0.getD (r4.1 : Int).toNat default).fName), .str ((a0.getD (r4.1 : Int).toNat default).fValue), .bool ((a0.getD (r4.1 : Int).toNat default).fSet), .bool ((a0.getD (r4.1 : Int).toNat default).fExport), .bool ((a0.getD (r4.1 : Int).toNat default).fReadonly)] 0)) ∧ ((True ∧ (0 + 5 ≤ 5)) ∧ ((true = true) ∧ ((True ∧ (True ∧ ((true = true) ∧ (0 + 5 ≤ 5)))) ∧ True))))))) (by kernel_rfl) ⟨trivial, ⟨trivial, ⟨⟨⟨trivial, ⟨trivial, ⟨o10, ⟨(lt_map o11), rfl⟩⟩⟩⟩, (congrArg (fun c => DV.cptr c 0) (getD_encI encTVar a0 (r4.1 : Int) o10 o11))⟩, ⟨⟨trivial, (by decide)⟩, ⟨rfl, ⟨⟨trivial, ⟨trivial, ⟨rfl, (by decide)⟩⟩⟩, trivial⟩⟩⟩⟩⟩⟩ ?_
      refine AWp.seqX [0, 3, 10, 12] (tg := [45]) (H := []) (st' := ⟨sp [(0, .slice 5 (a0.map encTVar)), (3, .bool a3), (10, .int .i64 r4.1), (12, .ptr true 0 0)] 0 58, [.cells 26 [.str ((a0.getD (r4.1 : Int).toNat default).fName), .str ((a0.getD (r4.1 : Int).toNat default).fValue), .bool ((a0.getD (r4.1 : Int).toNat default).fSet), .bool (cond ((a0.getD (r4.1 : Int).toNat default).fExport) true a2), .bool ((a0.getD (r4.1 : Int).toNat default).fReadonly)]], [], []⟩) (ob := ((True ∧ (1 ≠ 0)) ∧ ((True ∧ (3 < 5)) ∧ (True ∧ (((((a0.getD (r4.1 : Int).toNat default).fExport) == false) = true → True) ∧ ((True ∧ ((((a0.getD (r4.1 : Int).toNat default).fExport) = true → True) ∧ (((a0.getD (r4.1 : Int).toNat default).fExport) = false → (((((a0.getD (r4.1 : Int).toNat default).fExport) == false) = true) ∧ True)))) ∧ ((True ∧ (1 ≠ 0)) ∧ ((True ∧ (True ∧ ((true = true) ∧ (3 + 1 ≤ 5)))) ∧ True)))))))) (by kernel_rfl) ⟨⟨trivial, (by decide)⟩, ⟨⟨trivial, (by decide)⟩, ⟨trivial, ⟨(fun hg0 => trivial), ⟨⟨trivial, ⟨(fun hg0 => trivial), (fun hg0 => ⟨(beqF hg0), trivial⟩)⟩⟩, ⟨⟨trivial, (by decide)⟩, ⟨⟨trivial, ⟨trivial, ⟨rfl, (by decide)⟩⟩⟩, trivial⟩⟩⟩⟩⟩⟩⟩ ?_
      refine AWp.seqX [0, 10, 12] (tg := [51]) (H := []) (st' := ⟨sp [(0, .slice 5 (a0.map encTVar)), (10, .int .i64 r4.1), (12, .ptr true 0 0)] 0 58, [.cells 26 [.str ((a0.getD (r4.1 : Int).toNat default).fName), .str ((a0.getD (r4.1 : Int).toNat default).fValue), .bool ((a0.getD (r4.1 : Int).toNat default).fSet), .bool (cond ((a0.getD (r4.1 : Int).toNat default).fExport) true a2), .bool (cond ((a0.getD (r4.1 : Int).toNat default).fReadonly) true a3)]], [], []⟩) (ob := ((True ∧ (1 ≠ 0)) ∧ ((True ∧ (4 < 5)) ∧ (True ∧ (((((a0.getD (r4.1 : Int).toNat default).fReadonly) == false) = true → True) ∧ ((True ∧ ((((a0.getD (r4.1 : Int).toNat default).fReadonly) = true → True) ∧ (((a0.getD (r4.1 : Int).toNat default).fReadonly) = false → (((((a0.getD (r4.1 : Int).toNat default).fReadonly) == false) = true) ∧ True)))) ∧ ((True ∧ (1 ≠ 0)) ∧ ((True ∧ (True ∧ ((true = true) ∧ (4 + 1 ≤ 5)))) ∧ True)))))))) (by kernel_rfl) ⟨⟨trivial, (by decide)⟩, ⟨⟨trivial, (by decide)⟩, ⟨trivial, ⟨(fun hg0 => trivial), ⟨⟨trivial, ⟨(fun hg0 => trivial), (fun hg0 => ⟨(beqF hg0), trivial⟩)⟩⟩, ⟨⟨trivial, (by decide)⟩, ⟨⟨trivial, ⟨trivial, ⟨rfl, (by decide)⟩⟩⟩, trivial⟩⟩⟩⟩⟩⟩⟩ ?_
      refine AWp.seqO ?_
      refine AOps.runK [53, 54, 56] 4 (tg := [8, 57]) (H := [(56, .slice 5 ([(TVar.mk ((a0.getD (r4.1 : Int).toNat default).fName) ((a0.getD (r4.1 : Int).toNat default).fValue) ((a0.getD (r4.1 : Int).toNat default).fSet) (cond ((a0.getD (r4.1 : Int).toNat default).fExport) true a2) (cond ((a0.getD (r4.1 : Int).toNat default).fReadonly) true a3))].map encTVar))]) (st' := ⟨sp [(53, .slice 5 (a0.map encTVar)), (54, .int .i64 r4.1), (56, .slice 5 ([(TVar.mk ((a0.getD (r4.1 : Int).toNat default).fName) ((a0.getD (r4.1 : Int).toNat default).fValue) ((a0.getD (r4.1 : Int).toNat default).fSet) (cond ((a0.getD (r4.1 : Int).toNat default).fExport) true a2) (cond ((a0.getD (r4.1 : Int).toNat default).fReadonly) true a3))].map encTVar))] 0 58, [.cells 26 [.str ((a0.getD (r4.1 : Int).toNat default).fName), .str ((a0.getD (r4.1 : Int).toNat default).fValue), .bool ((a0.getD (r4.1 : Int).toNat default).fSet), .bool (cond ((a0.getD (r4.1 : Int).toNat default).fExport) true a2), .bool (cond ((a0.getD (r4.1 : Int).toNat default).fReadonly) true a3)]], [], []⟩) (ob := (True ∧ (True ∧ ((True ∧ (0 + 5 ≤ 5)) ∧ ((((true = true) ∧ (True ∧ ((true = true) ∧ True))) ∧ ((.slice 5 [[.str ((a0.getD (r4.1 : Int).toNat default).fName), .str ((a0.getD (r4.1 : Int).toNat default).fValue), .bool ((a0.getD (r4.1 : Int).toNat default).fSet), .bool (cond ((a0.getD (r4.1 : Int).toNat default).fExport) true a2), .bool (cond ((a0.getD (r4.1 : Int).toNat default).fReadonly) true a3)]] : DV) = .slice 5 ([(TVar.mk ((a0.getD (r4.1 : Int).toNat default).fName) ((a0.getD (r4.1 : Int).toNat default).fValue) ((a0.getD (r4.1 : Int).toNat default).fSet) (cond ((a0.getD (r4.1 : Int).toNat default).fExport) true a2) (cond ((a0.getD (r4.1 : Int).toNat default).fReadonly) true a3))].map encTVar))) ∧ True))))) (by kernel_rfl) ⟨trivial, ⟨trivial, ⟨⟨trivial, (by decide)⟩, ⟨⟨⟨rfl, ⟨trivial, ⟨rfl, trivial⟩⟩⟩, rfl⟩, trivial⟩⟩⟩⟩ ?_
      obtain ⟨r12, e13, h⟩ := bind_some h
      refine AOps.call1 (ds := [.slice 5 (a0.map encTVar), .int .i64 r4.1, .int .i64 1, .slice 5 ([(TVar.mk ((a0.getD (r4.1 : Int).toNat default).fName) ((a0.getD (r4.1 : Int).toNat default).fValue) ((a0.getD (r4.1 : Int).toNat default).fSet) (cond ((a0.getD (r4.1 : Int).toNat default).fExport) true a2) (cond ((a0.getD (r4.1 : Int).toNat default).fReadonly) true a3))].map encTVar)]) (d := .slice 5 (r12.map encTVar)) (ow := [⟨.slot 0, 26, 5⟩]) (st' := ⟨sp [(53, .slice 5 (a0.map encTVar)), (54, .int .i64 r4.1), (56, .slice 5 ([(TVar.mk ((a0.getD (r4.1 : Int).toNat default).fName) ((a0.getD (r4.1 : Int).toNat default).fValue) ((a0.getD (r4.1 : Int).toNat default).fSet) (cond ((a0.getD (r4.1 : Int).toNat default).fExport) true a2) (cond ((a0.getD (r4.1 : Int).toNat default).fReadonly) true a3))].map encTVar)), (57, .slice 5 (r12.map encTVar))] 0 58, [.cells 26 [.str ((a0.getD (r4.1 : Int).toNat default).fName), .str ((a0.getD (r4.1 : Int).toNat default).fValue), .bool ((a0.getD (r4.1 : Int).toNat default).fSet), .bool (cond ((a0.getD (r4.1 : Int).toNat default).fExport) true a2), .bool (cond ((a0.getD (r4.1 : Int).toNat default).fReadonly) true a3)]], [], [⟨.slot 57, 26, 5⟩]⟩) (by kernel_rfl) fk35 (by kernel_rfl) ⟨trivial, ⟨trivial, ⟨trivial, ⟨trivial, trivial⟩⟩⟩⟩ (by kernel_rfl) (vars_splice_ok a0 r4.1 1 [(TVar.mk ((a0.getD (r4.1 : Int).toNat default).fName) ((a0.getD (r4.1 : Int).toNat default).fValue) ((a0.getD (r4.1 : Int).toNat default).fSet) (cond ((a0.getD (r4.1 : Int).toNat default).fExport) true a2) (cond ((a0.getD (r4.1 : Int).toNat default).fReadonly) true a3))] r12 e13) (by kernel_rfl) ?_
      refine AOps.runK [8, 9] 2 (tg := [8, 57]) (H := []) (st' := ⟨sp [(8, .slice 5 (r12.map encTVar)), (9, .int .i64 0)] 0 58, [.cells 26 [.str ((a0.getD (r4.1 : Int).toNat default).fName), .str ((a0.getD (r4.1 : Int).toNat default).fValue), .bool ((a0.getD (r4.1 : Int).toNat default).fSet), .bool (cond ((a0.getD (r4.1 : Int).toNat default).fExport) true a2), .bool (cond ((a0.getD (r4.1 : Int).toNat default).fReadonly) true a3)]], [], [⟨.slot 8, 26, 5⟩]⟩) (ob := (True ∧ (True ∧ True))) (by kernel_rfl) ⟨trivial, ⟨trivial, trivial⟩⟩ ?_
      refine AOps.done ?_
      refine AWp.ret ?_
      obtain rfl := Option.some.inj h
      exact ⟨[.slice 5 (r12.map encTVar), .int .i64 0], (True ∧ (True ∧ True)), by kernel_rfl, ⟨trivial, ⟨trivial, trivial⟩⟩, by kernel_rfl, ⟨rfl, rfl, rfl⟩⟩
def vars_Environ_l0_b (a0 : List TVar) (n4 : Nat) (recvars_Environ_l0 : ((List (List UInt8)) × Int) → Option (List (List UInt8))) (x3 : (List (List UInt8)) × Int) : Option (List (List UInt8)) :=
  cond (decide (x3.2 < (a0.length : Int))) (
    (req (((0 : Int) ≤ x3.2) ∧ (x3.2 < (a0.length : Int))) (
        cond (cond ((a0.getD (x3.2 : Int).toNat default).fSet) ((a0.getD (x3.2 : Int).toNat default).fExport) false) (
          req ((((a0.getD (x3.2 : Int).toNat default).fName).length + ([61] : List UInt8).length ≤ 9223372036854775807) ∧ ((((a0.getD (x3.2 : Int).toNat default).fName) ++ ([61] : List UInt8)).length + ((a0.getD (x3.2 : Int).toNat default).fValue).length ≤ 9223372036854775807) ∧ (x3.1.length + 1 ≤ 9223372036854775807) ∧ ((x3.1.length + 1) * 16 ≤ 140737488355328)) (
            some (x3.1 ++ [(((a0.getD (x3.2 : Int).toNat default).fName) ++ ([61] : List UInt8)) ++ ((a0.getD (x3.2 : Int).toNat default).fValue)]))) (
          some x3.1))).bind (fun s6 =>
      recvars_Environ_l0 (s6, IntKind.i64.wrap (x3.2 + 1)))) (
    some x3.1)
def vars_Environ_l0 (a0 : List TVar) : Nat → ((List (List UInt8)) × Int) → Option (List (List UInt8))
  | 0, _ => none
  | n + 1, x => vars_Environ_l0_b a0 n (vars_Environ_l0 a0 n) x
def vars_Environ (fuel : Nat) (a0 : List TVar) : Option (List (List UInt8)) :=
  (vars_Environ_l0 a0 fuel ([], (0 : Int))).bind (fun s1 =>
    some s1)
theorem vars_Environ_ok (fuel : Nat) (a0 : List TVar) (r : List (List UInt8)) (h : vars_Environ fuel a0 = some r) : ACalls Try.prog 26 [.slice 5 (a0.map encTVar)] [] (fun q => q = ⟨.slice 1 (r.map ceS), [], [], [⟨.slot 0, 9, 1⟩]⟩) := by
  unfold vars_Environ at h
  refine ACalls.intro (fn := Try.f26) Try.func26 rfl ?_
  refine AWp.keep [0] (st' := ⟨sp [(0, .slice 5 (a0.map encTVar))] 0 29, [], [], []⟩) (by kernel_rfl) ?_
  refine AWp.seqX [0] (tg := []) (H := []) (st' := ⟨sp [(0, .slice 5 (a0.map encTVar))] 0 29, [], [], []⟩) (ob := (True ∧ True)) (by kernel_rfl) ⟨trivial, trivial⟩ ?_
  refine AWp.seqX [0, 3] (tg := []) (H := []) (st' := ⟨sp [(0, .slice 5 (a0.map encTVar)), (3, .val (.slice none 0 0))] 0 29, [], [], []⟩) (ob := (True ∧ True)) (by kernel_rfl) ⟨trivial, trivial⟩ ?_
  refine AWp.nilowns [(3, 9, 1)] (st' := ⟨sp [(0, .slice 5 (a0.map encTVar)), (3, .slice 1 [])] 0 29, [], [], [⟨.slot 3, 9, 1⟩]⟩) (by kernel_rfl) (by kernel_rfl) ?_
  obtain ⟨s1, e2, h⟩ := bind_some h
  refine AWp.seqMid ⟨sp [(3, .slice 1 (s1.map ceS))] 0 29, [], [], [⟨.slot 3, 9, 1⟩]⟩ ?_ ?_
  ·
    refine AWp.seqX [3, 6, 7, 8] (tg := []) (H := [(7, .int .i64 (a0.length : Int))]) (st' := ⟨sp [(3, .slice 1 []), (6, .slice 5 (a0.map encTVar)), (7, .int .i64 (a0.length : Int)), (8, .int .i64 0)] 0 29, [], [], [⟨.slot 3, 9, 1⟩]⟩) (ob := (True ∧ (((True ∧ True) ∧ ((.int .i64 ((a0.map encTVar).length : Int) : DV) = .int .i64 (a0.length : Int))) ∧ (True ∧ True)))) (by kernel_rfl) ⟨trivial, ⟨⟨⟨trivial, trivial⟩, (congrArg (fun n : Nat => DV.int .i64 n) (List.length_map _))⟩, ⟨trivial, trivial⟩⟩⟩ ?_
    refine AWp.block ?_
    refine AWp.loop (ι := {p : Nat × ((List (List UInt8)) × Int) // vars_Environ_l0 a0 p.1 p.2 = some _}) (fun p => ⟨sp [(3, .slice 1 (p.1.2.1.map ceS)), (6, .slice 5 (a0.map encTVar)), (7, .int .i64 (a0.length : Int)), (8, .int .i64 p.1.2.2)] 0 29, [], [], [⟨.slot 3, 9, 1⟩]⟩) (fun p => p.1.1) ⟨(fuel, ([], (0 : Int))), e2⟩ ⟨⟨.inl rfl, ⟨.inl rfl, ⟨.inl rfl, ⟨.inr ⟨rfl, rfl⟩, ⟨.inl rfl, ⟨.inl rfl, ⟨.inr ⟨rfl, rfl⟩, ⟨.inr ⟨rfl, rfl⟩, ⟨.inr ⟨rfl, rfl⟩, ⟨.inl rfl, ⟨.inl rfl, ⟨.inl rfl, ⟨.inl rfl, ⟨.inl rfl, ⟨.inl rfl, ⟨.inl rfl, ⟨.inl rfl, ⟨.inl rfl, ⟨.inl rfl, ⟨.inl rfl, ⟨.inl rfl, ⟨.inl rfl, ⟨.inl rfl, ⟨.inl rfl, ⟨.inl rfl, ⟨.inl rfl, ⟨.inl rfl, ⟨.inl rfl, ⟨.inl rfl, trivial⟩⟩⟩⟩⟩⟩⟩⟩⟩⟩⟩⟩⟩⟩⟩⟩⟩⟩⟩⟩⟩⟩⟩⟩⟩⟩⟩⟩⟩, rfl, rfl, rfl, ⟨_, (.cons_cons _ .slnil), (.refl _)⟩, rfl⟩ ?_
    rintro ⟨⟨n4, x3⟩, h⟩
    cases n4 with
    | zero => cases h
    | succ n4 =>
      replace h : vars_Environ_l0_b a0 n4 (vars_Environ_l0 a0 n4) x3 = some _ := h
      unfold vars_Environ_l0_b at h
      refine AWp.seqX [3, 6, 7, 8, 9] (tg := []) (H := []) (st' := ⟨sp [(3, .slice 1 (x3.1.map ceS)), (6, .slice 5 (a0.map encTVar)), (7, .int .i64 (a0.length : Int)), (8, .int .i64 x3.2), (9, .bool (decide (x3.2 < (a0.length : Int))))] 0 29, [], [], [⟨.slot 3, 9, 1⟩]⟩) (ob := ((True ∧ (True ∧ (IntKind.i64 = IntKind.i64))) ∧ True)) (by kernel_rfl) ⟨⟨trivial, ⟨trivial, rfl⟩⟩, trivial⟩ ?_
      refine AWp.seq ?_
      refine AWp.cond (b := decide (x3.2 < (a0.length : Int))) (by kernel_rfl) trivial (fun c5 => ?_) (fun c5 => ?_)
      · have h := cond_t c5 h
        refine AWp.skip ?_
        obtain ⟨s6, e7, h⟩ := bind_some h
        refine AWp.seqMid ⟨sp [(3, .slice 1 (s6.map ceS)), (6, .slice 5 (a0.map encTVar)), (7, .int .i64 (a0.length : Int)), (8, .int .i64 x3.2)] 0 29, [.cells 26 [.str ((a0.getD (x3.2 : Int).toNat default).fName), .str ((a0.getD (x3.2 : Int).toNat default).fValue), .bool ((a0.getD (x3.2 : Int).toNat default).fSet), .bool ((a0.getD (x3.2 : Int).toNat default).fExport), .bool ((a0.getD (x3.2 : Int).toNat default).fReadonly)]], [], [⟨.slot 3, 9, 1⟩]⟩ ?_ ?_
        ·
          refine AWp.block ?_
          obtain ⟨⟨o8, o9⟩, h⟩ := req_some e7
          refine AWp.seqX [3, 5, 6, 7, 8] (tg := [11]) (H := [(10, .cptr [.str ((a0.getD (x3.2 : Int).toNat default).fName), .str ((a0.getD (x3.2 : Int).toNat default).fValue), .bool ((a0.getD (x3.2 : Int).toNat default).fSet), .bool ((a0.getD (x3.2 : Int).toNat default).fExport), .bool ((a0.getD (x3.2 : Int).toNat default).fReadonly)] 0)]) (st' := ⟨sp [(3, .slice 1 (x3.1.map ceS)), (5, .ptr true 0 0), (6, .slice 5 (a0.map encTVar)), (7, .int .i64 (a0.length : Int)), (8, .int .i64 x3.2)] 0 29, [.cells 26 [.str ((a0.getD (x3.2 : Int).toNat default).fName), .str ((a0.getD (x3.2 : Int).toNat default).fValue), .bool ((a0.getD (x3.2 : Int).toNat default).fSet), .bool ((a0.getD (x3.2 : Int).toNat default).fExport), .bool ((a0.getD (x3.2 : Int).toNat default).fReadonly)]], [], [⟨.slot 3, 9, 1⟩]⟩) (ob := (((True ∧ (True ∧ (((0 : Int) ≤ x3.2) ∧ ((x3.2 < ((a0.map encTVar).length : Int)) ∧ (5 = 5))))) ∧ ((.cptr ((a0.map encTVar).getD (x3.2 : Int).toNat []) 0 : DV) = .cptr [.str ((a0.getD (x3.2 : Int).toNat default).fName), .str ((a0.getD (x3.2 : Int).toNat default).fValue), .bool ((a0.getD (x3.2 : Int).toNat default).fSet), .bool ((a0.getD (x3.2 : Int).toNat default).fExport), .bool ((a0.getD (x3.2 : Int).toNat default).fReadonly)] 0)) ∧ ((True ∧ (0 + 5 ≤ 5)) ∧ ((true = true) ∧ ((True ∧ (True ∧ ((true = true) ∧ (0 + 5 ≤ 5)))) ∧ True))))) (by kernel_rfl) ⟨⟨⟨trivial, ⟨trivial, ⟨o8, ⟨(lt_map o9), rfl⟩⟩⟩⟩, (congrArg (fun c => DV.cptr c 0) (getD_encI encTVar a0 (x3.2 : Int) o8 o9))⟩, ⟨⟨trivial, (by decide)⟩, ⟨rfl, ⟨⟨trivial, ⟨trivial, ⟨rfl, (by decide)⟩⟩⟩, trivial⟩⟩⟩⟩ ?_
          refine AWp.seqX [3, 5, 6, 7, 8, 17] (tg := []) (H := []) (st' := ⟨sp [(3, .slice 1 (x3.1.map ceS)), (5, .ptr true 0 0), (6, .slice 5 (a0.map encTVar)), (7, .int .i64 (a0.length : Int)), (8, .int .i64 x3.2), (17, .bool (cond ((a0.getD (x3.2 : Int).toNat default).fSet) ((a0.getD (x3.2 : Int).toNat default).fExport) false))] 0 29, [.cells 26 [.str ((a0.getD (x3.2 : Int).toNat default).fName), .str ((a0.getD (x3.2 : Int).toNat default).fValue), .bool ((a0.getD (x3.2 : Int).toNat default).fSet), .bool ((a0.getD (x3.2 : Int).toNat default).fExport), .bool ((a0.getD (x3.2 : Int).toNat default).fReadonly)]], [], [⟨.slot 3, 9, 1⟩]⟩) (ob := ((True ∧ (1 ≠ 0)) ∧ ((True ∧ (2 < 5)) ∧ (True ∧ (((((a0.getD (x3.2 : Int).toNat default).fSet) == true) = true → (True ∧ (1 ≠ 0))) ∧ (((((a0.getD (x3.2 : Int).toNat default).fSet) == true) = true → ((((((a0.getD (x3.2 : Int).toNat default).fSet) == true) = true) ∧ True) ∧ (3 < 5))) ∧ ((True ∧ ((((a0.getD (x3.2 : Int).toNat default).fSet) = true → (((((a0.getD (x3.2 : Int).toNat default).fSet) == true) = true) ∧ True)) ∧ (((a0.getD (x3.2 : Int).toNat default).fSet) = false → True))) ∧ True))))))) (by kernel_rfl) ⟨⟨trivial, (by decide)⟩, ⟨⟨trivial, (by decide)⟩, ⟨trivial, ⟨(fun hg0 => ⟨trivial, (by decide)⟩), ⟨(fun hg0 => ⟨⟨hg0, trivial⟩, (by decide)⟩), ⟨⟨trivial, ⟨(fun hg0 => ⟨(beqT hg0), trivial⟩), (fun hg0 => trivial)⟩⟩, trivial⟩⟩⟩⟩⟩⟩ ?_
          refine AWp.cond (b := cond ((a0.getD (x3.2 : Int).toNat default).fSet) ((a0.getD (x3.2 : Int).toNat default).fExport) false) (by kernel_rfl) trivial (fun c10 => ?_) (fun c10 => ?_)
          · have h := cond_t c10 h
            obtain ⟨⟨o11, o12, o13, o14⟩, h⟩ := req_some h
            refine AWp.tailN [3, 6, 7, 8] [] (tg := [3, 18, 26]) (H := [(25, .slice 1 ([(((a0.getD (x3.2 : Int).toNat default).fName) ++ ([61] : List UInt8)) ++ ((a0.getD (x3.2 : Int).toNat default).fValue)].map ceS)), (26, .slice 1 ((x3.1 ++ [(((a0.getD (x3.2 : Int).toNat default).fName) ++ ([61] : List UInt8)) ++ ((a0.getD (x3.2 : Int).toNat default).fValue)]).map ceS))]) (st' := ⟨sp [(3, .slice 1 ((x3.1 ++ [(((a0.getD (x3.2 : Int).toNat default).fName) ++ ([61] : List UInt8)) ++ ((a0.getD (x3.2 : Int).toNat default).fValue)]).map ceS)), (6, .slice 5 (a0.map encTVar)), (7, .int .i64 (a0.length : Int)), (8, .int .i64 x3.2)] 0 29, [.cells 26 [.str ((a0.getD (x3.2 : Int).toNat default).fName), .str ((a0.getD (x3.2 : Int).toNat default).fValue), .bool ((a0.getD (x3.2 : Int).toNat default).fSet), .bool ((a0.getD (x3.2 : Int).toNat default).fExport), .bool ((a0.getD (x3.2 : Int).toNat default).fReadonly)]], [], [⟨.slot 3, 9, 1⟩]⟩) (ob := (True ∧ ((True ∧ (1 ≠ 0)) ∧ ((True ∧ (0 < 5)) ∧ ((True ∧ (True ∧ (((a0.getD (x3.2 : Int).toNat default).fName).length + ([61] : List UInt8).length ≤ 9223372036854775807))) ∧ ((True ∧ (1 ≠ 0)) ∧ ((True ∧ (1 < 5)) ∧ ((True ∧ (True ∧ ((((a0.getD (x3.2 : Int).toNat default).fName) ++ ([61] : List UInt8)).length + ((a0.getD (x3.2 : Int).toNat default).fValue).length ≤ 9223372036854775807))) ∧ ((((true = true) ∧ (True ∧ ((true = true) ∧ True))) ∧ ((.slice 1 [[.str ((((a0.getD (x3.2 : Int).toNat default).fName) ++ ([61] : List UInt8)) ++ ((a0.getD (x3.2 : Int).toNat default).fValue))]] : DV) = .slice 1 ([(((a0.getD (x3.2 : Int).toNat default).fName) ++ ([61] : List UInt8)) ++ ((a0.getD (x3.2 : Int).toNat default).fValue)].map ceS))) ∧ (((True ∧ (True ∧ ((true = true) ∧ ((((x3.1.map ceS) : List (List DV)).length + (([(((a0.getD (x3.2 : Int).toNat default).fName) ++ ([61] : List UInt8)) ++ ((a0.getD (x3.2 : Int).toNat default).fValue)].map ceS) : List (List DV)).length ≤ 9223372036854775807) ∧ ((((x3.1.map ceS) : List (List DV)).length + (([(((a0.getD (x3.2 : Int).toNat default).fName) ++ ([61] : List UInt8)) ++ ((a0.getD (x3.2 : Int).toNat default).fValue)].map ceS) : List (List DV)).length) * 16 ≤ 140737488355328))))) ∧ ((.slice 1 ((x3.1.map ceS) ++ ([(((a0.getD (x3.2 : Int).toNat default).fName) ++ ([61] : List UInt8)) ++ ((a0.getD (x3.2 : Int).toNat default).fValue)].map ceS)) : DV) = .slice 1 ((x3.1 ++ [(((a0.getD (x3.2 : Int).toNat default).fName) ++ ([61] : List UInt8)) ++ ((a0.getD (x3.2 : Int).toNat default).fValue)]).map ceS))) ∧ (True ∧ True))))))))))) (by kernel_rfl) ⟨trivial, ⟨⟨trivial, (by decide)⟩, ⟨⟨trivial, (by decide)⟩, ⟨⟨trivial, ⟨trivial, o11⟩⟩, ⟨⟨trivial, (by decide)⟩, ⟨⟨trivial, (by decide)⟩, ⟨⟨trivial, ⟨trivial, o12⟩⟩, ⟨⟨⟨rfl, ⟨trivial, ⟨rfl, trivial⟩⟩⟩, rfl⟩, ⟨⟨⟨trivial, ⟨trivial, ⟨rfl, ⟨(by simpa using o13), (by simpa using o14)⟩⟩⟩⟩, (congrArg (DV.slice 1) (List.map_append (f := ceS) (l₁ := x3.1) (l₂ := [(((a0.getD (x3.2 : Int).toNat default).fName) ++ ([61] : List UInt8)) ++ ((a0.getD (x3.2 : Int).toNat default).fValue)])).symm)⟩, ⟨trivial, trivial⟩⟩⟩⟩⟩⟩⟩⟩⟩⟩ ?_
            obtain rfl := Option.some.inj h
            exact ⟨⟨.inl rfl, ⟨.inl rfl, ⟨.inl rfl, ⟨.inr ⟨rfl, rfl⟩, ⟨.inl rfl, ⟨.inl rfl, ⟨.inr ⟨rfl, rfl⟩, ⟨.inr ⟨rfl, rfl⟩, ⟨.inr ⟨rfl, rfl⟩, ⟨.inl rfl, ⟨.inl rfl, ⟨.inl rfl, ⟨.inl rfl, ⟨.inl rfl, ⟨.inl rfl, ⟨.inl rfl, ⟨.inl rfl, ⟨.inl rfl, ⟨.inl rfl, ⟨.inl rfl, ⟨.inl rfl, ⟨.inl rfl, ⟨.inl rfl, ⟨.inl rfl, ⟨.inl rfl, ⟨.inl rfl, ⟨.inl rfl, ⟨.inl rfl, ⟨.inl rfl, trivial⟩⟩⟩⟩⟩⟩⟩⟩⟩⟩⟩⟩⟩⟩⟩⟩⟩⟩⟩⟩⟩⟩⟩⟩⟩⟩⟩⟩⟩, rfl, rfl, rfl, ⟨_, (.cons_cons _ .slnil), (.refl _)⟩, rfl⟩
          · have h := cond_f c10 h
            refine AWp.skip ?_
            obtain rfl := Option.some.inj h
            exact ⟨⟨.inl rfl, ⟨.inl rfl, ⟨.inl rfl, ⟨.inr ⟨rfl, rfl⟩, ⟨.inl rfl, ⟨.inl rfl, ⟨.inr ⟨rfl, rfl⟩, ⟨.inr ⟨rfl, rfl⟩, ⟨.inr ⟨rfl, rfl⟩, ⟨.inl rfl, ⟨.inl rfl, ⟨.inl rfl, ⟨.inl rfl, ⟨.inl rfl, ⟨.inl rfl, ⟨.inl rfl, ⟨.inl rfl, ⟨.inl rfl, ⟨.inl rfl, ⟨.inl rfl, ⟨.inl rfl, ⟨.inl rfl, ⟨.inl rfl, ⟨.inl rfl, ⟨.inl rfl, ⟨.inl rfl, ⟨.inl rfl, ⟨.inl rfl, ⟨.inl rfl, trivial⟩⟩⟩⟩⟩⟩⟩⟩⟩⟩⟩⟩⟩⟩⟩⟩⟩⟩⟩⟩⟩⟩⟩⟩⟩⟩⟩⟩⟩, rfl, rfl, rfl, ⟨_, (.cons_cons _ .slnil), (.refl _)⟩, rfl⟩
        · skip
          refine AWp.tailN [3, 6, 7, 8] [] (tg := []) (H := []) (st' := ⟨sp [(3, .slice 1 (s6.map ceS)), (6, .slice 5 (a0.map encTVar)), (7, .int .i64 (a0.length : Int)), (8, .int .i64 (IntKind.i64.wrap (x3.2 + 1)))] 0 29, [.cells 26 [.str ((a0.getD (x3.2 : Int).toNat default).fName), .str ((a0.getD (x3.2 : Int).toNat default).fValue), .bool ((a0.getD (x3.2 : Int).toNat default).fSet), .bool ((a0.getD (x3.2 : Int).toNat default).fExport), .bool ((a0.getD (x3.2 : Int).toNat default).fReadonly)]], [], [⟨.slot 3, 9, 1⟩]⟩) (ob := ((True ∧ (True ∧ (IntKind.i64 = IntKind.i64))) ∧ (True ∧ True))) (by kernel_rfl) ⟨⟨trivial, ⟨trivial, rfl⟩⟩, ⟨trivial, trivial⟩⟩ ?_
          exact ⟨⟨(n4, (s6, IntKind.i64.wrap (x3.2 + 1))), h⟩, Nat.lt_succ_self _, ⟨⟨.inl rfl, ⟨.inl rfl, ⟨.inl rfl, ⟨.inr ⟨rfl, rfl⟩, ⟨.inl rfl, ⟨.inl rfl, ⟨.inr ⟨rfl, rfl⟩, ⟨.inr ⟨rfl, rfl⟩, ⟨.inr ⟨rfl, rfl⟩, ⟨.inl rfl, ⟨.inl rfl, ⟨.inl rfl, ⟨.inl rfl, ⟨.inl rfl, ⟨.inl rfl, ⟨.inl rfl, ⟨.inl rfl, ⟨.inl rfl, ⟨.inl rfl, ⟨.inl rfl, ⟨.inl rfl, ⟨.inl rfl, ⟨.inl rfl, ⟨.inl rfl, ⟨.inl rfl, ⟨.inl rfl, ⟨.inl rfl, ⟨.inl rfl, ⟨.inl rfl, trivial⟩⟩⟩⟩⟩⟩⟩⟩⟩⟩⟩⟩⟩⟩⟩⟩⟩⟩⟩⟩⟩⟩⟩⟩⟩⟩⟩⟩⟩, rfl, rfl, rfl, ⟨_, (.cons_cons _ .slnil), (.refl _)⟩, rfl⟩⟩
      · have h := cond_f c5 h
        refine AWp.exit ?_
        obtain rfl := Option.some.inj h
        exact ⟨⟨.inl rfl, ⟨.inl rfl, ⟨.inl rfl, ⟨.inr ⟨rfl, rfl⟩, ⟨.inl rfl, ⟨.inl rfl, ⟨.inl rfl, ⟨.inl rfl, ⟨.inl rfl, ⟨.inl rfl, ⟨.inl rfl, ⟨.inl rfl, ⟨.inl rfl, ⟨.inl rfl, ⟨.inl rfl, ⟨.inl rfl, ⟨.inl rfl, ⟨.inl rfl, ⟨.inl rfl, ⟨.inl rfl, ⟨.inl rfl, ⟨.inl rfl, ⟨.inl rfl, ⟨.inl rfl, ⟨.inl rfl, ⟨.inl rfl, ⟨.inl rfl, ⟨.inl rfl, ⟨.inl rfl, trivial⟩⟩⟩⟩⟩⟩⟩⟩⟩⟩⟩⟩⟩⟩⟩⟩⟩⟩⟩⟩⟩⟩⟩⟩⟩⟩⟩⟩⟩, rfl, rfl, rfl, ⟨_, (.cons_cons _ .slnil), (.refl _)⟩, rfl⟩
  · skip
    refine AWp.seqX [2] (tg := [2, 28]) (H := []) (st' := ⟨sp [(2, .slice 1 (s1.map ceS))] 0 29, [], [], [⟨.slot 2, 9, 1⟩]⟩) (ob := (True ∧ (True ∧ True))) (by kernel_rfl) ⟨trivial, ⟨trivial, trivial⟩⟩ ?_
    refine AWp.ret ?_
    obtain rfl := Option.some.inj h
    exact ⟨[.slice 1 (s1.map ceS)], (True ∧ True), by kernel_rfl, ⟨trivial, trivial⟩, by kernel_rfl, ACalls.eq_of rfl rfl rfl rfl⟩
def ref15_Environ_l0_b (a0 : List TVar) (n4 : Nat) (recref15_Environ_l0 : ((List (List UInt8)) × Int) → Option (List (List UInt8))) (x3 : (List (List UInt8)) × Int) : Option (List (List UInt8)) :=
  cond (decide (x3.2 < (a0.length : Int))) (
    (req (((0 : Int) ≤ x3.2) ∧ (x3.2 < (a0.length : Int))) (
        cond (cond ((a0.getD (x3.2 : Int).toNat default).fSet) ((a0.getD (x3.2 : Int).toNat default).fExport) false) (
          req ((((a0.getD (x3.2 : Int).toNat default).fName).length + ([61] : List UInt8).length ≤ 9223372036854775807) ∧ ((((a0.getD (x3.2 : Int).toNat default).fName) ++ ([61] : List UInt8)).length + ((a0.getD (x3.2 : Int).toNat default).fValue).length ≤ 9223372036854775807)) (
            req ((x3.1.length + 1 ≤ 9223372036854775807) ∧ ((x3.1.length + 1) * 16 ≤ 140737488355328)) (
              some (x3.1 ++ [(((a0.getD (x3.2 : Int).toNat default).fName) ++ ([61] : List UInt8)) ++ ((a0.getD (x3.2 : Int).toNat default).fValue)])))) (
          some x3.1))).bind (fun s6 =>
      recref15_Environ_l0 (s6, IntKind.i64.wrap (x3.2 + 1)))) (
    some x3.1)
def ref15_Environ_l0 (a0 : List TVar) : Nat → ((List (List UInt8)) × Int) → Option (List (List UInt8))
  | 0, _ => none
  | n + 1, x => ref15_Environ_l0_b a0 n (ref15_Environ_l0 a0 n) x
def ref15_Environ (fuel : Nat) (a0 : List TVar) : Option (List (List UInt8)) :=
  (ref15_Environ_l0 a0 fuel ([], (0 : Int))).bind (fun s1 =>
    some s1)
theorem ref15_Environ_ok (fuel : Nat) (a0 : List TVar) (r : List (List UInt8)) (h : ref15_Environ fuel a0 = some r) : ACalls Try.prog 27 [.slice 5 (a0.map encTVar)] [] (fun q => q = ⟨.slice 1 (r.map ceS), [], [], [⟨.slot 0, 9, 1⟩]⟩) := by
  unfold ref15_Environ at h
  refine ACalls.intro (fn := Try.f27) Try.func27 rfl ?_
  refine AWp.keep [0] (st' := ⟨sp [(0, .slice 5 (a0.map encTVar))] 0 39, [], [], []⟩) (by kernel_rfl) ?_
  refine AWp.seqX [0] (tg := []) (H := []) (st' := ⟨sp [(0, .slice 5 (a0.map encTVar))] 0 39, [], [], []⟩) (ob := (True ∧ True)) (by kernel_rfl) ⟨trivial, trivial⟩ ?_
  refine AWp.seqX [0, 3] (tg := []) (H := []) (st' := ⟨sp [(0, .slice 5 (a0.map encTVar)), (3, .val (.slice none 0 0))] 0 39, [], [], []⟩) (ob := (True ∧ True)) (by kernel_rfl) ⟨trivial, trivial⟩ ?_
  refine AWp.nilowns [(3, 9, 1)] (st' := ⟨sp [(0, .slice 5 (a0.map encTVar)), (3, .slice 1 [])] 0 39, [], [], [⟨.slot 3, 9, 1⟩]⟩) (by kernel_rfl) (by kernel_rfl) ?_
  obtain ⟨s1, e2, h⟩ := bind_some h
  refine AWp.seqMid ⟨sp [(3, .slice 1 (s1.map ceS))] 0 39, [], [], [⟨.slot 3, 9, 1⟩]⟩ ?_ ?_
  ·
    refine AWp.seqX [0, 3, 4] (tg := []) (H := []) (st' := ⟨sp [(0, .slice 5 (a0.map encTVar)), (3, .slice 1 []), (4, .int .i64 0)] 0 39, [], [], [⟨.slot 3, 9, 1⟩]⟩) (ob := (True ∧ True)) (by kernel_rfl) ⟨trivial, trivial⟩ ?_
    refine AWp.block ?_
    refine AWp.loop (ι := {p : Nat × ((List (List UInt8)) × Int) // ref15_Environ_l0 a0 p.1 p.2 = some _}) (fun p => ⟨sp [(0, .slice 5 (a0.map encTVar)), (3, .slice 1 (p.1.2.1.map ceS)), (4, .int .i64 p.1.2.2)] 0 39, [], [], [⟨.slot 3, 9, 1⟩]⟩) (fun p => p.1.1) ⟨(fuel, ([], (0 : Int))), e2⟩ ⟨⟨.inr ⟨rfl, rfl⟩, ⟨.inl rfl, ⟨.inl rfl, ⟨.inr ⟨rfl, rfl⟩, ⟨.inr ⟨rfl, rfl⟩, ⟨.inl rfl, ⟨.inl rfl, ⟨.inl rfl, ⟨.inl rfl, ⟨.inl rfl, ⟨.inl rfl, ⟨.inl rfl, ⟨.inl rfl, ⟨.inl rfl, ⟨.inl rfl, ⟨.inl rfl, ⟨.inl rfl, ⟨.inl rfl, ⟨.inl rfl, ⟨.inl rfl, ⟨.inl rfl, ⟨.inl rfl, ⟨.inl rfl, ⟨.inl rfl, ⟨.inl rfl, ⟨.inl rfl, ⟨.inl rfl, ⟨.inl rfl, ⟨.inl rfl, ⟨.inl rfl, ⟨.inl rfl, ⟨.inl rfl, ⟨.inl rfl, ⟨.inl rfl, ⟨.inl rfl, ⟨.inl rfl, ⟨.inl rfl, ⟨.inl rfl, ⟨.inl rfl, trivial⟩⟩⟩⟩⟩⟩⟩⟩⟩⟩⟩⟩⟩⟩⟩⟩⟩⟩⟩⟩⟩⟩⟩⟩⟩⟩⟩⟩⟩⟩⟩⟩⟩⟩⟩⟩⟩⟩⟩, rfl, rfl, rfl, ⟨_, (.cons_cons _ .slnil), (.refl _)⟩, rfl⟩ ?_
    rintro ⟨⟨n4, x3⟩, h⟩
    cases n4 with
    | zero => cases h
    | succ n4 =>
      replace h : ref15_Environ_l0_b a0 n4 (ref15_Environ_l0 a0 n4) x3 = some _ := h
      unfold ref15_Environ_l0_b at h
      refine AWp.seq ?_
      refine AWp.seqX [0, 3, 4, 8] (tg := []) (H := [(7, .int .i64 (a0.length : Int))]) (st' := ⟨sp [(0, .slice 5 (a0.map encTVar)), (3, .slice 1 (x3.1.map ceS)), (4, .int .i64 x3.2), (8, .bool (decide (x3.2 < (a0.length : Int))))] 0 39, [], [], [⟨.slot 3, 9, 1⟩]⟩) (ob := (True ∧ (True ∧ (((True ∧ True) ∧ ((.int .i64 ((a0.map encTVar).length : Int) : DV) = .int .i64 (a0.length : Int))) ∧ ((True ∧ (True ∧ (IntKind.i64 = IntKind.i64))) ∧ True))))) (by kernel_rfl) ⟨trivial, ⟨trivial, ⟨⟨⟨trivial, trivial⟩, (congrArg (fun n : Nat => DV.int .i64 n) (List.length_map _))⟩, ⟨⟨trivial, ⟨trivial, rfl⟩⟩, trivial⟩⟩⟩⟩ ?_
      refine AWp.cond (b := decide (x3.2 < (a0.length : Int))) (by kernel_rfl) trivial (fun c5 => ?_) (fun c5 => ?_)
      · have h := cond_t c5 h
        refine AWp.skip ?_
        obtain ⟨s6, e7, h⟩ := bind_some h
        refine AWp.seqMid ⟨sp [(0, .slice 5 (a0.map encTVar)), (3, .slice 1 (s6.map ceS)), (4, .int .i64 x3.2)] 0 39, [], [], [⟨.slot 3, 9, 1⟩]⟩ ?_ ?_
        ·
          refine AWp.block ?_
          obtain ⟨⟨o8, o9⟩, h⟩ := req_some e7
          refine AWp.seqX [0, 3, 4, 22] (tg := []) (H := [(13, .cptr [.str ((a0.getD (x3.2 : Int).toNat default).fName), .str ((a0.getD (x3.2 : Int).toNat default).fValue), .bool ((a0.getD (x3.2 : Int).toNat default).fSet), .bool ((a0.getD (x3.2 : Int).toNat default).fExport), .bool ((a0.getD (x3.2 : Int).toNat default).fReadonly)] 0), (19, .cptr [.str ((a0.getD (x3.2 : Int).toNat default).fName), .str ((a0.getD (x3.2 : Int).toNat default).fValue), .bool ((a0.getD (x3.2 : Int).toNat default).fSet), .bool ((a0.getD (x3.2 : Int).toNat default).fExport), .bool ((a0.getD (x3.2 : Int).toNat default).fReadonly)] 0)]) (st' := ⟨sp [(0, .slice 5 (a0.map encTVar)), (3, .slice 1 (x3.1.map ceS)), (4, .int .i64 x3.2), (22, .bool (cond ((a0.getD (x3.2 : Int).toNat default).fSet) ((a0.getD (x3.2 : Int).toNat default).fExport) false))] 0 39, [], [], [⟨.slot 3, 9, 1⟩]⟩) (ob := (True ∧ (True ∧ (((True ∧ (True ∧ (((0 : Int) ≤ x3.2) ∧ ((x3.2 < ((a0.map encTVar).length : Int)) ∧ (5 = 5))))) ∧ ((.cptr ((a0.map encTVar).getD (x3.2 : Int).toNat []) 0 : DV) = .cptr [.str ((a0.getD (x3.2 : Int).toNat default).fName), .str ((a0.getD (x3.2 : Int).toNat default).fValue), .bool ((a0.getD (x3.2 : Int).toNat default).fSet), .bool ((a0.getD (x3.2 : Int).toNat default).fExport), .bool ((a0.getD (x3.2 : Int).toNat default).fReadonly)] 0)) ∧ ((True ∧ (1 ≠ 0)) ∧ ((True ∧ (2 < 5)) ∧ (True ∧ (((((a0.getD (x3.2 : Int).toNat default).fSet) == true) = true → True) ∧ (((((a0.getD (x3.2 : Int).toNat default).fSet) == true) = true → True) ∧ (((((a0.getD (x3.2 : Int).toNat default).fSet) == true) = true → (((((((a0.getD (x3.2 : Int).toNat default).fSet) == true) = true) ∧ True) ∧ ((((((a0.getD (x3.2 : Int).toNat default).fSet) == true) = true) ∧ True) ∧ (((0 : Int) ≤ x3.2) ∧ ((x3.2 < ((a0.map encTVar).length : Int)) ∧ (5 = 5))))) ∧ ((.cptr ((a0.map encTVar).getD (x3.2 : Int).toNat []) 0 : DV) = .cptr [.str ((a0.getD (x3.2 : Int).toNat default).fName), .str ((a0.getD (x3.2 : Int).toNat default).fValue), .bool ((a0.getD (x3.2 : Int).toNat default).fSet), .bool ((a0.getD (x3.2 : Int).toNat default).fExport), .bool ((a0.getD (x3.2 : Int).toNat default).fReadonly)] 0))) ∧ (((((a0.getD (x3.2 : Int).toNat default).fSet) == true) = true → ((((((a0.getD (x3.2 : Int).toNat default).fSet) == true) = true) ∧ True) ∧ (1 ≠ 0))) ∧ (((((a0.getD (x3.2 : Int).toNat default).fSet) == true) = true → ((((((a0.getD (x3.2 : Int).toNat default).fSet) == true) = true) ∧ True) ∧ (3 < 5))) ∧ ((True ∧ ((((a0.getD (x3.2 : Int).toNat default).fSet) = true → (((((a0.getD (x3.2 : Int).toNat default).fSet) == true) = true) ∧ True)) ∧ (((a0.getD (x3.2 : Int).toNat default).fSet) = false → True))) ∧ True))))))))))))) (by kernel_rfl) ⟨trivial, ⟨trivial, ⟨⟨⟨trivial, ⟨trivial, ⟨o8, ⟨(lt_map o9), rfl⟩⟩⟩⟩, (congrArg (fun c => DV.cptr c 0) (getD_encI encTVar a0 (x3.2 : Int) o8 o9))⟩, ⟨⟨trivial, (by decide)⟩, ⟨⟨trivial, (by decide)⟩, ⟨trivial, ⟨(fun hg0 => trivial), ⟨(fun hg0 => trivial), ⟨(fun hg0 => ⟨⟨⟨hg0, trivial⟩, ⟨⟨hg0, trivial⟩, ⟨((fun _ => o8) hg0), ⟨(lt_map ((fun _ => o9) hg0)), rfl⟩⟩⟩⟩, (congrArg (fun c => DV.cptr c 0) (getD_encI encTVar a0 (x3.2 : Int) ((fun _ => o8) hg0) ((fun _ => o9) hg0)))⟩), ⟨(fun hg0 => ⟨⟨hg0, trivial⟩, (by decide)⟩), ⟨(fun hg0 => ⟨⟨hg0, trivial⟩, (by decide)⟩), ⟨⟨trivial, ⟨(fun hg0 => ⟨(beqT hg0), trivial⟩), (fun hg0 => trivial)⟩⟩, trivial⟩⟩⟩⟩⟩⟩⟩⟩⟩⟩⟩⟩ ?_
          refine AWp.cond (b := cond ((a0.getD (x3.2 : Int).toNat default).fSet) ((a0.getD (x3.2 : Int).toNat default).fExport) false) (by kernel_rfl) trivial (fun c10 => ?_) (fun c10 => ?_)
          · have h := cond_t c10 h
            refine AWp.draw mixed ?_
            obtain ⟨⟨o11, o12⟩, h⟩ := req_some h
            refine ADraw.quiet [0, 4, 23, 35] 0 13 (tg := [3, 23, 37]) (H := [(26, .cptr [.str ((a0.getD (x3.2 : Int).toNat default).fName), .str ((a0.getD (x3.2 : Int).toNat default).fValue), .bool ((a0.getD (x3.2 : Int).toNat default).fSet), .bool ((a0.getD (x3.2 : Int).toNat default).fExport), .bool ((a0.getD (x3.2 : Int).toNat default).fReadonly)] 0), (32, .cptr [.str ((a0.getD (x3.2 : Int).toNat default).fName), .str ((a0.getD (x3.2 : Int).toNat default).fValue), .bool ((a0.getD (x3.2 : Int).toNat default).fSet), .bool ((a0.getD (x3.2 : Int).toNat default).fExport), .bool ((a0.getD (x3.2 : Int).toNat default).fReadonly)] 0)]) (st' := ⟨sp [(0, .slice 5 (a0.map encTVar)), (4, .int .i64 x3.2), (23, .slice 1 (x3.1.map ceS)), (35, .str ((((a0.getD (x3.2 : Int).toNat default).fName) ++ ([61] : List UInt8)) ++ ((a0.getD (x3.2 : Int).toNat default).fValue)))] 0 39, [], [], [⟨.slot 23, 9, 1⟩]⟩) (ob := (True ∧ (True ∧ (True ∧ (((True ∧ (True ∧ (((0 : Int) ≤ x3.2) ∧ ((x3.2 < ((a0.map encTVar).length : Int)) ∧ (5 = 5))))) ∧ ((.cptr ((a0.map encTVar).getD (x3.2 : Int).toNat []) 0 : DV) = .cptr [.str ((a0.getD (x3.2 : Int).toNat default).fName), .str ((a0.getD (x3.2 : Int).toNat default).fValue), .bool ((a0.getD (x3.2 : Int).toNat default).fSet), .bool ((a0.getD (x3.2 : Int).toNat default).fExport), .bool ((a0.getD (x3.2 : Int).toNat default).fReadonly)] 0)) ∧ ((True ∧ (1 ≠ 0)) ∧ ((True ∧ (0 < 5)) ∧ ((True ∧ (True ∧ (((a0.getD (x3.2 : Int).toNat default).fName).length + ([61] : List UInt8).length ≤ 9223372036854775807))) ∧ (True ∧ (True ∧ (((True ∧ (True ∧ (((0 : Int) ≤ x3.2) ∧ ((x3.2 < ((a0.map encTVar).length : Int)) ∧ (5 = 5))))) ∧ ((.cptr ((a0.map encTVar).getD (x3.2 : Int).toNat []) 0 : DV) = .cptr [.str ((a0.getD (x3.2 : Int).toNat default).fName), .str ((a0.getD (x3.2 : Int).toNat default).fValue), .bool ((a0.getD (x3.2 : Int).toNat default).fSet), .bool ((a0.getD (x3.2 : Int).toNat default).fExport), .bool ((a0.getD (x3.2 : Int).toNat default).fReadonly)] 0)) ∧ ((True ∧ (1 ≠ 0)) ∧ ((True ∧ (1 < 5)) ∧ ((True ∧ (True ∧ ((((a0.getD (x3.2 : Int).toNat default).fName) ++ ([61] : List UInt8)).length + ((a0.getD (x3.2 : Int).toNat default).fValue).length ≤ 9223372036854775807))) ∧ True)))))))))))))) (by kernel_rfl) (by kernel_rfl) (by kernel_rfl) ⟨trivial, ⟨trivial, ⟨trivial, ⟨⟨⟨trivial, ⟨trivial, ⟨o8, ⟨(lt_map o9), rfl⟩⟩⟩⟩, (congrArg (fun c => DV.cptr c 0) (getD_encI encTVar a0 (x3.2 : Int) o8 o9))⟩, ⟨⟨trivial, (by decide)⟩, ⟨⟨trivial, (by decide)⟩, ⟨⟨trivial, ⟨trivial, o11⟩⟩, ⟨trivial, ⟨trivial, ⟨⟨⟨trivial, ⟨trivial, ⟨o8, ⟨(lt_map o9), rfl⟩⟩⟩⟩, (congrArg (fun c => DV.cptr c 0) (getD_encI encTVar a0 (x3.2 : Int) o8 o9))⟩, ⟨⟨trivial, (by decide)⟩, ⟨⟨trivial, (by decide)⟩, ⟨⟨trivial, ⟨trivial, o12⟩⟩, trivial⟩⟩⟩⟩⟩⟩⟩⟩⟩⟩⟩⟩⟩ ?_
            refine ADraw.seg 13 3 (by kernel_rfl) (by kernel_rfl) ?_
            obtain ⟨⟨o13, o14⟩, h⟩ := req_some h
            refine AOps.runK [0, 3, 4] 3 (tg := [3, 23, 37]) (H := [(36, .slice 1 ([(((a0.getD (x3.2 : Int).toNat default).fName) ++ ([61] : List UInt8)) ++ ((a0.getD (x3.2 : Int).toNat default).fValue)].map ceS)), (37, .slice 1 ((x3.1 ++ [(((a0.getD (x3.2 : Int).toNat default).fName) ++ ([61] : List UInt8)) ++ ((a0.getD (x3.2 : Int).toNat default).fValue)]).map ceS))]) (st' := ⟨sp [(0, .slice 5 (a0.map encTVar)), (3, .slice 1 ((x3.1 ++ [(((a0.getD (x3.2 : Int).toNat default).fName) ++ ([61] : List UInt8)) ++ ((a0.getD (x3.2 : Int).toNat default).fValue)]).map ceS)), (4, .int .i64 x3.2)] 0 39, [], [], [⟨.slot 3, 9, 1⟩]⟩) (ob := ((((true = true) ∧ (True ∧ ((true = true) ∧ True))) ∧ ((.slice 1 [[.str ((((a0.getD (x3.2 : Int).toNat default).fName) ++ ([61] : List UInt8)) ++ ((a0.getD (x3.2 : Int).toNat default).fValue))]] : DV) = .slice 1 ([(((a0.getD (x3.2 : Int).toNat default).fName) ++ ([61] : List UInt8)) ++ ((a0.getD (x3.2 : Int).toNat default).fValue)].map ceS))) ∧ (((True ∧ (True ∧ ((true = true) ∧ ((((x3.1.map ceS) : List (List DV)).length + (([(((a0.getD (x3.2 : Int).toNat default).fName) ++ ([61] : List UInt8)) ++ ((a0.getD (x3.2 : Int).toNat default).fValue)].map ceS) : List (List DV)).length ≤ 9223372036854775807) ∧ ((((x3.1.map ceS) : List (List DV)).length + (([(((a0.getD (x3.2 : Int).toNat default).fName) ++ ([61] : List UInt8)) ++ ((a0.getD (x3.2 : Int).toNat default).fValue)].map ceS) : List (List DV)).length) * 16 ≤ 140737488355328))))) ∧ ((.slice 1 ((x3.1.map ceS) ++ ([(((a0.getD (x3.2 : Int).toNat default).fName) ++ ([61] : List UInt8)) ++ ((a0.getD (x3.2 : Int).toNat default).fValue)].map ceS)) : DV) = .slice 1 ((x3.1 ++ [(((a0.getD (x3.2 : Int).toNat default).fName) ++ ([61] : List UInt8)) ++ ((a0.getD (x3.2 : Int).toNat default).fValue)]).map ceS))) ∧ (True ∧ True)))) (by kernel_rfl) ⟨⟨⟨rfl, ⟨trivial, ⟨rfl, trivial⟩⟩⟩, rfl⟩, ⟨⟨⟨trivial, ⟨trivial, ⟨rfl, ⟨(by simpa using o13), (by simpa using o14)⟩⟩⟩⟩, (congrArg (DV.slice 1) (List.map_append (f := ceS) (l₁ := x3.1) (l₂ := [(((a0.getD (x3.2 : Int).toNat default).fName) ++ ([61] : List UInt8)) ++ ((a0.getD (x3.2 : Int).toNat default).fValue)])).symm)⟩, ⟨trivial, trivial⟩⟩⟩ ?_
            refine AOps.drawn ?_
            refine ADraw.done 16 (by kernel_rfl) ?_
            obtain rfl := Option.some.inj h
            exact ⟨⟨.inr ⟨rfl, rfl⟩, ⟨.inl rfl, ⟨.inl rfl, ⟨.inr ⟨rfl, rfl⟩, ⟨.inr ⟨rfl, rfl⟩, ⟨.inl rfl, ⟨.inl rfl, ⟨.inl rfl, ⟨.inl rfl, ⟨.inl rfl, ⟨.inl rfl, ⟨.inl rfl, ⟨.inl rfl, ⟨.inl rfl, ⟨.inl rfl, ⟨.inl rfl, ⟨.inl rfl, ⟨.inl rfl, ⟨.inl rfl, ⟨.inl rfl, ⟨.inl rfl, ⟨.inl rfl, ⟨.inl rfl, ⟨.inl rfl, ⟨.inl rfl, ⟨.inl rfl, ⟨.inl rfl, ⟨.inl rfl, ⟨.inl rfl, ⟨.inl rfl, ⟨.inl rfl, ⟨.inl rfl, ⟨.inl rfl, ⟨.inl rfl, ⟨.inl rfl, ⟨.inl rfl, ⟨.inl rfl, ⟨.inl rfl, ⟨.inl rfl, trivial⟩⟩⟩⟩⟩⟩⟩⟩⟩⟩⟩⟩⟩⟩⟩⟩⟩⟩⟩⟩⟩⟩⟩⟩⟩⟩⟩⟩⟩⟩⟩⟩⟩⟩⟩⟩⟩⟩⟩, rfl, rfl, rfl, ⟨_, (.cons_cons _ .slnil), (.refl _)⟩, rfl⟩
          · have h := cond_f c10 h
            refine AWp.skip ?_
            obtain rfl := Option.some.inj h
            exact ⟨⟨.inr ⟨rfl, rfl⟩, ⟨.inl rfl, ⟨.inl rfl, ⟨.inr ⟨rfl, rfl⟩, ⟨.inr ⟨rfl, rfl⟩, ⟨.inl rfl, ⟨.inl rfl, ⟨.inl rfl, ⟨.inl rfl, ⟨.inl rfl, ⟨.inl rfl, ⟨.inl rfl, ⟨.inl rfl, ⟨.inl rfl, ⟨.inl rfl, ⟨.inl rfl, ⟨.inl rfl, ⟨.inl rfl, ⟨.inl rfl, ⟨.inl rfl, ⟨.inl rfl, ⟨.inl rfl, ⟨.inl rfl, ⟨.inl rfl, ⟨.inl rfl, ⟨.inl rfl, ⟨.inl rfl, ⟨.inl rfl, ⟨.inl rfl, ⟨.inl rfl, ⟨.inl rfl, ⟨.inl rfl, ⟨.inl rfl, ⟨.inl rfl, ⟨.inl rfl, ⟨.inl rfl, ⟨.inl rfl, ⟨.inl rfl, ⟨.inl rfl, trivial⟩⟩⟩⟩⟩⟩⟩⟩⟩⟩⟩⟩⟩⟩⟩⟩⟩⟩⟩⟩⟩⟩⟩⟩⟩⟩⟩⟩⟩⟩⟩⟩⟩⟩⟩⟩⟩⟩⟩, rfl, rfl, rfl, ⟨_, (.cons_cons _ .slnil), (.refl _)⟩, rfl⟩
        · skip
          refine AWp.tailN [0, 3, 4] [] (tg := [4, 10]) (H := []) (st' := ⟨sp [(0, .slice 5 (a0.map encTVar)), (3, .slice 1 (s6.map ceS)), (4, .int .i64 (IntKind.i64.wrap (x3.2 + 1)))] 0 39, [], [], [⟨.slot 3, 9, 1⟩]⟩) (ob := (True ∧ ((True ∧ (True ∧ (IntKind.i64 = IntKind.i64))) ∧ (True ∧ True)))) (by kernel_rfl) ⟨trivial, ⟨⟨trivial, ⟨trivial, rfl⟩⟩, ⟨trivial, trivial⟩⟩⟩ ?_
          exact ⟨⟨(n4, (s6, IntKind.i64.wrap (x3.2 + 1))), h⟩, Nat.lt_succ_self _, ⟨⟨.inr ⟨rfl, rfl⟩, ⟨.inl rfl, ⟨.inl rfl, ⟨.inr ⟨rfl, rfl⟩, ⟨.inr ⟨rfl, rfl⟩, ⟨.inl rfl, ⟨.inl rfl, ⟨.inl rfl, ⟨.inl rfl, ⟨.inl rfl, ⟨.inl rfl, ⟨.inl rfl, ⟨.inl rfl, ⟨.inl rfl, ⟨.inl rfl, ⟨.inl rfl, ⟨.inl rfl, ⟨.inl rfl, ⟨.inl rfl, ⟨.inl rfl, ⟨.inl rfl, ⟨.inl rfl, ⟨.inl rfl, ⟨.inl rfl, ⟨.inl rfl, ⟨.inl rfl, ⟨.inl rfl, ⟨.inl rfl, ⟨.inl rfl, ⟨.inl rfl, ⟨.inl rfl, ⟨.inl rfl, ⟨.inl rfl, ⟨.inl rfl, ⟨.inl rfl, ⟨.inl rfl, ⟨.inl rfl, ⟨.inl rfl, ⟨.inl rfl, trivial⟩⟩⟩⟩⟩⟩⟩⟩⟩⟩⟩⟩⟩⟩⟩⟩⟩⟩⟩⟩⟩⟩⟩⟩⟩⟩⟩⟩⟩⟩⟩⟩⟩⟩⟩⟩⟩⟩⟩, rfl, rfl, rfl, ⟨_, (.cons_cons _ .slnil), (.refl _)⟩, rfl⟩⟩
      · have h := cond_f c5 h
        refine AWp.exit ?_
        obtain rfl := Option.some.inj h
        exact ⟨⟨.inl rfl, ⟨.inl rfl, ⟨.inl rfl, ⟨.inr ⟨rfl, rfl⟩, ⟨.inl rfl, ⟨.inl rfl, ⟨.inl rfl, ⟨.inl rfl, ⟨.inl rfl, ⟨.inl rfl, ⟨.inl rfl, ⟨.inl rfl, ⟨.inl rfl, ⟨.inl rfl, ⟨.inl rfl, ⟨.inl rfl, ⟨.inl rfl, ⟨.inl rfl, ⟨.inl rfl, ⟨.inl rfl, ⟨.inl rfl, ⟨.inl rfl, ⟨.inl rfl, ⟨.inl rfl, ⟨.inl rfl, ⟨.inl rfl, ⟨.inl rfl, ⟨.inl rfl, ⟨.inl rfl, ⟨.inl rfl, ⟨.inl rfl, ⟨.inl rfl, ⟨.inl rfl, ⟨.inl rfl, ⟨.inl rfl, ⟨.inl rfl, ⟨.inl rfl, ⟨.inl rfl, ⟨.inl rfl, trivial⟩⟩⟩⟩⟩⟩⟩⟩⟩⟩⟩⟩⟩⟩⟩⟩⟩⟩⟩⟩⟩⟩⟩⟩⟩⟩⟩⟩⟩⟩⟩⟩⟩⟩⟩⟩⟩⟩⟩, rfl, rfl, rfl, ⟨_, (.cons_cons _ .slnil), (.refl _)⟩, rfl⟩
  · skip
    refine AWp.seqX [2] (tg := [2, 38]) (H := []) (st' := ⟨sp [(2, .slice 1 (s1.map ceS))] 0 39, [], [], [⟨.slot 2, 9, 1⟩]⟩) (ob := (True ∧ (True ∧ True))) (by kernel_rfl) ⟨trivial, ⟨trivial, trivial⟩⟩ ?_
    refine AWp.ret ?_
    obtain rfl := Option.some.inj h
    exact ⟨[.slice 1 (s1.map ceS)], (True ∧ True), by kernel_rfl, ⟨trivial, trivial⟩, by kernel_rfl, ACalls.eq_of rfl rfl rfl rfl⟩
def ref15_put_l0_b (a0 : List TVar) (a1 : TVar) (n4 : Nat) (recref15_put_l0 : ((List TVar) × Bool × Int) → Option ((List TVar) × Bool)) (x3 : (List TVar) × Bool × Int) : Option ((List TVar) × Bool) :=
  cond (decide (x3.2.2 < (a0.length : Int))) (
    ((req ((((!x3.2.1) == true) = true → (0 : Int) ≤ x3.2.2) ∧ (((!x3.2.1) == true) = true → x3.2.2 < (a0.length : Int))) (
          cond (cond (!x3.2.1) (!(Op.bytesLess ((a0.getD (x3.2.2 : Int).toNat default).fName) a1.fName)) false) (
            req ((x3.1.length + 1 ≤ 9223372036854775807) ∧ ((x3.1.length + 1) * 40 ≤ 140737488355328)) (
              some (x3.1 ++ [a1], true))) (
            some (x3.1, x3.2.1)))).bind (fun s8 =>
        req (((0 : Int) ≤ x3.2.2) ∧ (x3.2.2 < (a0.length : Int))) (
          cond (!(((a0.getD (x3.2.2 : Int).toNat default).fName) == a1.fName)) (
            req ((s8.1.length + 1 ≤ 9223372036854775807) ∧ ((s8.1.length + 1) * 40 ≤ 140737488355328)) (
              some (s8.1 ++ [(a0.getD (x3.2.2 : Int).toNat default)], s8.2))) (
            some (s8.1, s8.2))))).bind (fun s6 =>
      recref15_put_l0 (s6.1, s6.2, IntKind.i64.wrap (x3.2.2 + 1)))) (
    some (x3.1, x3.2.1))
def ref15_put_l0 (a0 : List TVar) (a1 : TVar) : Nat → ((List TVar) × Bool × Int) → Option ((List TVar) × Bool)
  | 0, _ => none
  | n + 1, x => ref15_put_l0_b a0 a1 n (ref15_put_l0 a0 a1 n) x
def ref15_put (fuel : Nat) (a0 : List TVar) (a1 : TVar) : Option (List TVar) :=
  (ref15_put_l0 a0 a1 fuel ([], false, (0 : Int))).bind (fun s1 =>
    (cond (!s1.2) (
        req ((s1.1.length + 1 ≤ 9223372036854775807) ∧ ((s1.1.length + 1) * 40 ≤ 140737488355328)) (
          some (s1.1 ++ [a1]))) (
        some s1.1)).bind (fun s5 =>
      some s5))
theorem ref15_put_ok (fuel : Nat) (a0 : List TVar) (a1 : TVar) (r : List TVar) (h : ref15_put fuel a0 a1 = some r) : ACalls Try.prog 36 [.slice 5 (a0.map encTVar), .agg [.str a1.fName, .str a1.fValue, .bool a1.fSet, .bool a1.fExport, .bool a1.fReadonly]] [] (fun q => q = ⟨.slice 5 (r.map encTVar), [], [], [⟨.slot 0, 26, 5⟩]⟩) := by
  unfold ref15_put at h
  refine ACalls.intro (fn := Try.f36) Try.func36 rfl ?_
  refine AWp.keep [0, 1] (st' := ⟨sp [(0, .slice 5 (a0.map encTVar)), (1, .agg [.str a1.fName, .str a1.fValue, .bool a1.fSet, .bool a1.fExport, .bool a1.fReadonly])] 0 52, [], [], []⟩) (by kernel_rfl) ?_
  refine AWp.seqX [0, 3] (tg := []) (H := []) (st' := ⟨sp [(0, .slice 5 (a0.map encTVar)), (3, .ptr true 0 0)] 0 52, [.cells 26 [.str a1.fName, .str a1.fValue, .bool a1.fSet, .bool a1.fExport, .bool a1.fReadonly]], [], []⟩) (ob := ((True ∧ (true = true)) ∧ (True ∧ True))) (by kernel_rfl) ⟨⟨trivial, rfl⟩, ⟨trivial, trivial⟩⟩ ?_
  refine AWp.seqX [0, 3, 5] (tg := []) (H := []) (st' := ⟨sp [(0, .slice 5 (a0.map encTVar)), (3, .ptr true 0 0), (5, .val (.slice none 0 0))] 0 52, [.cells 26 [.str a1.fName, .str a1.fValue, .bool a1.fSet, .bool a1.fExport, .bool a1.fReadonly]], [], []⟩) (ob := (True ∧ True)) (by kernel_rfl) ⟨trivial, trivial⟩ ?_
  refine AWp.nilowns [(5, 26, 5)] (st' := ⟨sp [(0, .slice 5 (a0.map encTVar)), (3, .ptr true 0 0), (5, .slice 5 [])] 0 52, [.cells 26 [.str a1.fName, .str a1.fValue, .bool a1.fSet, .bool a1.fExport, .bool a1.fReadonly]], [], [⟨.slot 5, 26, 5⟩]⟩) (by kernel_rfl) (by kernel_rfl) ?_
  refine AWp.seqX [0, 3, 5, 6] (tg := []) (H := []) (st' := ⟨sp [(0, .slice 5 (a0.map encTVar)), (3, .ptr true 0 0), (5, .slice 5 []), (6, .bool false)] 0 52, [.cells 26 [.str a1.fName, .str a1.fValue, .bool a1.fSet, .bool a1.fExport, .bool a1.fReadonly]], [], [⟨.slot 5, 26, 5⟩]⟩) (ob := (True ∧ True)) (by kernel_rfl) ⟨trivial, trivial⟩ ?_
  obtain ⟨s1, e2, h⟩ := bind_some h
  refine AWp.seqMid ⟨sp [(3, .ptr true 0 0), (5, .slice 5 (s1.1.map encTVar)), (6, .bool s1.2)] 0 52, [.cells 26 [.str a1.fName, .str a1.fValue, .bool a1.fSet, .bool a1.fExport, .bool a1.fReadonly]], [], [⟨.slot 5, 26, 5⟩]⟩ ?_ ?_
  ·
    refine AWp.seqX [0, 3, 5, 6, 7] (tg := []) (H := []) (st' := ⟨sp [(0, .slice 5 (a0.map encTVar)), (3, .ptr true 0 0), (5, .slice 5 []), (6, .bool false), (7, .int .i64 0)] 0 52, [.cells 26 [.str a1.fName, .str a1.fValue, .bool a1.fSet, .bool a1.fExport, .bool a1.fReadonly]], [], [⟨.slot 5, 26, 5⟩]⟩) (ob := (True ∧ True)) (by kernel_rfl) ⟨trivial, trivial⟩ ?_
    refine AWp.block ?_
    refine AWp.loop (ι := {p : Nat × ((List TVar) × Bool × Int) // ref15_put_l0 a0 a1 p.1 p.2 = some _}) (fun p => ⟨sp [(0, .slice 5 (a0.map encTVar)), (3, .ptr true 0 0), (5, .slice 5 (p.1.2.1.map encTVar)), (6, .bool p.1.2.2.1), (7, .int .i64 p.1.2.2.2)] 0 52, [.cells 26 [.str a1.fName, .str a1.fValue, .bool a1.fSet, .bool a1.fExport, .bool a1.fReadonly]], [], [⟨.slot 5, 26, 5⟩]⟩) (fun p => p.1.1) ⟨(fuel, ([], false, (0 : Int))), e2⟩ ⟨⟨.inr ⟨rfl, rfl⟩, ⟨.inl rfl, ⟨.inl rfl, ⟨.inr ⟨rfl, rfl⟩, ⟨.inl rfl, ⟨.inr ⟨rfl, rfl⟩, ⟨.inr ⟨rfl, rfl⟩, ⟨.inr ⟨rfl, rfl⟩, ⟨.inl rfl, ⟨.inl rfl, ⟨.inl rfl, ⟨.inl rfl, ⟨.inl rfl, ⟨.inl rfl, ⟨.inl rfl, ⟨.inl rfl, ⟨.inl rfl, ⟨.inl rfl, ⟨.inl rfl, ⟨.inl rfl, ⟨.inl rfl, ⟨.inl rfl, ⟨.inl rfl, ⟨.inl rfl, ⟨.inl rfl, ⟨.inl rfl, ⟨.inl rfl, ⟨.inl rfl, ⟨.inl rfl, ⟨.inl rfl, ⟨.inl rfl, ⟨.inl rfl, ⟨.inl rfl, ⟨.inl rfl, ⟨.inl rfl, ⟨.inl rfl, ⟨.inl rfl, ⟨.inl rfl, ⟨.inl rfl, ⟨.inl rfl, ⟨.inl rfl, ⟨.inl rfl, ⟨.inl rfl, ⟨.inl rfl, ⟨.inl rfl, ⟨.inl rfl, ⟨.inl rfl, ⟨.inl rfl, ⟨.inl rfl, ⟨.inl rfl, ⟨.inl rfl, ⟨.inl rfl, trivial⟩⟩⟩⟩⟩⟩⟩⟩⟩⟩⟩⟩⟩⟩⟩⟩⟩⟩⟩⟩⟩⟩⟩⟩⟩⟩⟩⟩⟩⟩⟩⟩⟩⟩⟩⟩⟩⟩⟩⟩⟩⟩⟩⟩⟩⟩⟩⟩⟩⟩⟩⟩, rfl, rfl, rfl, ⟨_, (.cons_cons _ .slnil), (.refl _)⟩, rfl⟩ ?_
    rintro ⟨⟨n4, x3⟩, h⟩
    cases n4 with
    | zero => cases h
    | succ n4 =>
      replace h : ref15_put_l0_b a0 a1 n4 (ref15_put_l0 a0 a1 n4) x3 = some _ := h
      unfold ref15_put_l0_b at h
      refine AWp.seq ?_
      refine AWp.seqX [0, 3, 5, 6, 7, 11] (tg := []) (H := [(10, .int .i64 (a0.length : Int))]) (st' := ⟨sp [(0, .slice 5 (a0.map encTVar)), (3, .ptr true 0 0), (5, .slice 5 (x3.1.map encTVar)), (6, .bool x3.2.1), (7, .int .i64 x3.2.2), (11, .bool (decide (x3.2.2 < (a0.length : Int))))] 0 52, [.cells 26 [.str a1.fName, .str a1.fValue, .bool a1.fSet, .bool a1.fExport, .bool a1.fReadonly]], [], [⟨.slot 5, 26, 5⟩]⟩) (ob := (True ∧ (True ∧ (((True ∧ True) ∧ ((.int .i64 ((a0.map encTVar).length : Int) : DV) = .int .i64 (a0.length : Int))) ∧ ((True ∧ (True ∧ (IntKind.i64 = IntKind.i64))) ∧ True))))) (by kernel_rfl) ⟨trivial, ⟨trivial, ⟨⟨⟨trivial, trivial⟩, (congrArg (fun n : Nat => DV.int .i64 n) (List.length_map _))⟩, ⟨⟨trivial, ⟨trivial, rfl⟩⟩, trivial⟩⟩⟩⟩ ?_
      refine AWp.cond (b := decide (x3.2.2 < (a0.length : Int))) (by kernel_rfl) trivial (fun c5 => ?_) (fun c5 => ?_)
      · have h := cond_t c5 h
        refine AWp.skip ?_
        obtain ⟨s6, e7, h⟩ := bind_some h
        refine AWp.seqMid ⟨sp [(0, .slice 5 (a0.map encTVar)), (3, .ptr true 0 0), (5, .slice 5 (s6.1.map encTVar)), (6, .bool s6.2), (7, .int .i64 x3.2.2)] 0 52, [.cells 26 [.str a1.fName, .str a1.fValue, .bool a1.fSet, .bool a1.fExport, .bool a1.fReadonly]], [], [⟨.slot 5, 26, 5⟩]⟩ ?_ ?_
        ·
          refine AWp.block ?_
          obtain ⟨s8, e9, h⟩ := bind_some e7
          refine AWp.seqMid ⟨sp [(0, .slice 5 (a0.map encTVar)), (3, .ptr true 0 0), (5, .slice 5 (s8.1.map encTVar)), (6, .bool s8.2), (7, .int .i64 x3.2.2)] 0 52, [.cells 26 [.str a1.fName, .str a1.fValue, .bool a1.fSet, .bool a1.fExport, .bool a1.fReadonly]], [], [⟨.slot 5, 26, 5⟩]⟩ ?_ ?_
          ·
            obtain ⟨⟨o10, o11⟩, h⟩ := req_some e9
            refine AWp.seqQ [0, 3, 5, 6, 7, 25] (tg := []) (H := [(19, .cptr [.str ((a0.getD (x3.2.2 : Int).toNat default).fName), .str ((a0.getD (x3.2.2 : Int).toNat default).fValue), .bool ((a0.getD (x3.2.2 : Int).toNat default).fSet), .bool ((a0.getD (x3.2.2 : Int).toNat default).fExport), .bool ((a0.getD (x3.2.2 : Int).toNat default).fReadonly)] 0)]) (st' := ⟨sp [(0, .slice 5 (a0.map encTVar)), (3, .ptr true 0 0), (5, .slice 5 (x3.1.map encTVar)), (6, .bool x3.2.1), (7, .int .i64 x3.2.2), (25, .bool (cond (!x3.2.1) (!(Op.bytesLess ((a0.getD (x3.2.2 : Int).toNat default).fName) a1.fName)) false))] 0 52, [.cells 26 [.str a1.fName, .str a1.fValue, .bool a1.fSet, .bool a1.fExport, .bool a1.fReadonly]], [], [⟨.slot 5, 26, 5⟩]⟩) (ob := (True ∧ (True ∧ (True ∧ ((((!x3.2.1) == true) = true → True) ∧ ((((!x3.2.1) == true) = true → True) ∧ ((((!x3.2.1) == true) = true → ((((((!x3.2.1) == true) = true) ∧ True) ∧ (((((!x3.2.1) == true) = true) ∧ True) ∧ (((0 : Int) ≤ x3.2.2) ∧ ((x3.2.2 < ((a0.map encTVar).length : Int)) ∧ (5 = 5))))) ∧ ((.cptr ((a0.map encTVar).getD (x3.2.2 : Int).toNat []) 0 : DV) = .cptr [.str ((a0.getD (x3.2.2 : Int).toNat default).fName), .str ((a0.getD (x3.2.2 : Int).toNat default).fValue), .bool ((a0.getD (x3.2.2 : Int).toNat default).fSet), .bool ((a0.getD (x3.2.2 : Int).toNat default).fExport), .bool ((a0.getD (x3.2.2 : Int).toNat default).fReadonly)] 0))) ∧ ((((!x3.2.1) == true) = true → (((((!x3.2.1) == true) = true) ∧ True) ∧ (1 ≠ 0))) ∧ ((((!x3.2.1) == true) = true → (((((!x3.2.1) == true) = true) ∧ True) ∧ (0 < 5))) ∧ ((((!x3.2.1) == true) = true → (True ∧ (1 ≠ 0))) ∧ ((((!x3.2.1) == true) = true → (((((!x3.2.1) == true) = true) ∧ True) ∧ (0 < 5))) ∧ ((((!x3.2.1) == true) = true → (((((!x3.2.1) == true) = true) ∧ True) ∧ (((((!x3.2.1) == true) = true) ∧ True) ∧ True))) ∧ ((True ∧ (((!x3.2.1) = true → ((((!x3.2.1) == true) = true) ∧ True)) ∧ ((!x3.2.1) = false → True))) ∧ True))))))))))))) mixed (by kernel_rfl) (by kernel_rfl) ⟨trivial, ⟨trivial, ⟨trivial, ⟨(fun hg0 => trivial), ⟨(fun hg0 => trivial), ⟨(fun hg0 => ⟨⟨⟨hg0, trivial⟩, ⟨⟨hg0, trivial⟩, ⟨(o10 hg0), ⟨(lt_map (o11 hg0)), rfl⟩⟩⟩⟩, (congrArg (fun c => DV.cptr c 0) (getD_encI encTVar a0 (x3.2.2 : Int) (o10 hg0) (o11 hg0)))⟩), ⟨(fun hg0 => ⟨⟨hg0, trivial⟩, (by decide)⟩), ⟨(fun hg0 => ⟨⟨hg0, trivial⟩, (by decide)⟩), ⟨(fun hg0 => ⟨trivial, (by decide)⟩), ⟨(fun hg0 => ⟨⟨hg0, trivial⟩, (by decide)⟩), ⟨(fun hg0 => ⟨⟨hg0, trivial⟩, ⟨⟨hg0, trivial⟩, trivial⟩⟩), ⟨⟨trivial, ⟨(fun hg0 => ⟨(beqT hg0), trivial⟩), (fun hg0 => trivial)⟩⟩, trivial⟩⟩⟩⟩⟩⟩⟩⟩⟩⟩⟩⟩ ?_
            refine AWp.cond (b := cond (!x3.2.1) (!(Op.bytesLess ((a0.getD (x3.2.2 : Int).toNat default).fName) a1.fName)) false) (by kernel_rfl) trivial (fun c12 => ?_) (fun c12 => ?_)
            · have h := cond_t c12 h
              obtain ⟨⟨o13, o14⟩, h⟩ := req_some h
              refine AWp.seqX [0, 3, 5, 7] (tg := [5, 26, 29]) (H := [(28, .slice 5 ([a1].map encTVar)), (29, .slice 5 ((x3.1 ++ [a1]).map encTVar))]) (st' := ⟨sp [(0, .slice 5 (a0.map encTVar)), (3, .ptr true 0 0), (5, .slice 5 ((x3.1 ++ [a1]).map encTVar)), (7, .int .i64 x3.2.2)] 0 52, [.cells 26 [.str a1.fName, .str a1.fValue, .bool a1.fSet, .bool a1.fExport, .bool a1.fReadonly]], [], [⟨.slot 5, 26, 5⟩]⟩) (ob := (True ∧ ((True ∧ (0 + 5 ≤ 5)) ∧ ((((true = true) ∧ (True ∧ ((true = true) ∧ True))) ∧ ((.slice 5 [[.str a1.fName, .str a1.fValue, .bool a1.fSet, .bool a1.fExport, .bool a1.fReadonly]] : DV) = .slice 5 ([a1].map encTVar))) ∧ (((True ∧ (True ∧ ((true = true) ∧ ((((x3.1.map encTVar) : List (List DV)).length + (([a1].map encTVar) : List (List DV)).length ≤ 9223372036854775807) ∧ ((((x3.1.map encTVar) : List (List DV)).length + (([a1].map encTVar) : List (List DV)).length) * 40 ≤ 140737488355328))))) ∧ ((.slice 5 ((x3.1.map encTVar) ++ ([a1].map encTVar)) : DV) = .slice 5 ((x3.1 ++ [a1]).map encTVar))) ∧ (True ∧ True)))))) (by kernel_rfl) ⟨trivial, ⟨⟨trivial, (by decide)⟩, ⟨⟨⟨rfl, ⟨trivial, ⟨rfl, trivial⟩⟩⟩, rfl⟩, ⟨⟨⟨trivial, ⟨trivial, ⟨rfl, ⟨(by simpa using o13), (by simpa using o14)⟩⟩⟩⟩, (congrArg (DV.slice 5) (List.map_append (f := encTVar) (l₁ := x3.1) (l₂ := [a1])).symm)⟩, ⟨trivial, trivial⟩⟩⟩⟩⟩ ?_
              refine AWp.tailN [0, 3, 5, 6, 7] [] (tg := []) (H := []) (st' := ⟨sp [(0, .slice 5 (a0.map encTVar)), (3, .ptr true 0 0), (5, .slice 5 ((x3.1 ++ [a1]).map encTVar)), (6, .bool true), (7, .int .i64 x3.2.2)] 0 52, [.cells 26 [.str a1.fName, .str a1.fValue, .bool a1.fSet, .bool a1.fExport, .bool a1.fReadonly]], [], [⟨.slot 5, 26, 5⟩]⟩) (ob := (True ∧ True)) (by kernel_rfl) ⟨trivial, trivial⟩ ?_
              obtain rfl := Option.some.inj h
              exact ⟨⟨.inr ⟨rfl, rfl⟩, ⟨.inl rfl, ⟨.inl rfl, ⟨.inr ⟨rfl, rfl⟩, ⟨.inl rfl, ⟨.inr ⟨rfl, rfl⟩, ⟨.inr ⟨rfl, rfl⟩, ⟨.inr ⟨rfl, rfl⟩, ⟨.inl rfl, ⟨.inl rfl, ⟨.inl rfl, ⟨.inl rfl, ⟨.inl rfl, ⟨.inl rfl, ⟨.inl rfl, ⟨.inl rfl, ⟨.inl rfl, ⟨.inl rfl, ⟨.inl rfl, ⟨.inl rfl, ⟨.inl rfl, ⟨.inl rfl, ⟨.inl rfl, ⟨.inl rfl, ⟨.inl rfl, ⟨.inl rfl, ⟨.inl rfl, ⟨.inl rfl, ⟨.inl rfl, ⟨.inl rfl, ⟨.inl rfl, ⟨.inl rfl, ⟨.inl rfl, ⟨.inl rfl, ⟨.inl rfl, ⟨.inl rfl, ⟨.inl rfl, ⟨.inl rfl, ⟨.inl rfl, ⟨.inl rfl, ⟨.inl rfl, ⟨.inl rfl, ⟨.inl rfl, ⟨.inl rfl, ⟨.inl rfl, ⟨.inl rfl, ⟨.inl rfl, ⟨.inl rfl, ⟨.inl rfl, ⟨.inl rfl, ⟨.inl rfl, ⟨.inl rfl, trivial⟩⟩⟩⟩⟩⟩⟩⟩⟩⟩⟩⟩⟩⟩⟩⟩⟩⟩⟩⟩⟩⟩⟩⟩⟩⟩⟩⟩⟩⟩⟩⟩⟩⟩⟩⟩⟩⟩⟩⟩⟩⟩⟩⟩⟩⟩⟩⟩⟩⟩⟩⟩, rfl, rfl, rfl, ⟨_, (.cons_cons _ .slnil), (.refl _)⟩, rfl⟩
            · have h := cond_f c12 h
              refine AWp.skip ?_
              obtain rfl := Option.some.inj h
              exact ⟨⟨.inr ⟨rfl, rfl⟩, ⟨.inl rfl, ⟨.inl rfl, ⟨.inr ⟨rfl, rfl⟩, ⟨.inl rfl, ⟨.inr ⟨rfl, rfl⟩, ⟨.inr ⟨rfl, rfl⟩, ⟨.inr ⟨rfl, rfl⟩, ⟨.inl rfl, ⟨.inl rfl, ⟨.inl rfl, ⟨.inl rfl, ⟨.inl rfl, ⟨.inl rfl, ⟨.inl rfl, ⟨.inl rfl, ⟨.inl rfl, ⟨.inl rfl, ⟨.inl rfl, ⟨.inl rfl, ⟨.inl rfl, ⟨.inl rfl, ⟨.inl rfl, ⟨.inl rfl, ⟨.inl rfl, ⟨.inl rfl, ⟨.inl rfl, ⟨.inl rfl, ⟨.inl rfl, ⟨.inl rfl, ⟨.inl rfl, ⟨.inl rfl, ⟨.inl rfl, ⟨.inl rfl, ⟨.inl rfl, ⟨.inl rfl, ⟨.inl rfl, ⟨.inl rfl, ⟨.inl rfl, ⟨.inl rfl, ⟨.inl rfl, ⟨.inl rfl, ⟨.inl rfl, ⟨.inl rfl, ⟨.inl rfl, ⟨.inl rfl, ⟨.inl rfl, ⟨.inl rfl, ⟨.inl rfl, ⟨.inl rfl, ⟨.inl rfl, ⟨.inl rfl, trivial⟩⟩⟩⟩⟩⟩⟩⟩⟩⟩⟩⟩⟩⟩⟩⟩⟩⟩⟩⟩⟩⟩⟩⟩⟩⟩⟩⟩⟩⟩⟩⟩⟩⟩⟩⟩⟩⟩⟩⟩⟩⟩⟩⟩⟩⟩⟩⟩⟩⟩⟩⟩, rfl, rfl, rfl, ⟨_, (.cons_cons _ .slnil), (.refl _)⟩, rfl⟩
          · skip
            obtain ⟨⟨o15, o16⟩, h⟩ := req_some h
            refine AWp.seqQ [0, 3, 5, 6, 7, 37] (tg := []) (H := [(32, .cptr [.str ((a0.getD (x3.2.2 : Int).toNat default).fName), .str ((a0.getD (x3.2.2 : Int).toNat default).fValue), .bool ((a0.getD (x3.2.2 : Int).toNat default).fSet), .bool ((a0.getD (x3.2.2 : Int).toNat default).fExport), .bool ((a0.getD (x3.2.2 : Int).toNat default).fReadonly)] 0)]) (st' := ⟨sp [(0, .slice 5 (a0.map encTVar)), (3, .ptr true 0 0), (5, .slice 5 (s8.1.map encTVar)), (6, .bool s8.2), (7, .int .i64 x3.2.2), (37, .bool (!(((a0.getD (x3.2.2 : Int).toNat default).fName) == a1.fName)))] 0 52, [.cells 26 [.str a1.fName, .str a1.fValue, .bool a1.fSet, .bool a1.fExport, .bool a1.fReadonly]], [], [⟨.slot 5, 26, 5⟩]⟩) (ob := (True ∧ (True ∧ (((True ∧ (True ∧ (((0 : Int) ≤ x3.2.2) ∧ ((x3.2.2 < ((a0.map encTVar).length : Int)) ∧ (5 = 5))))) ∧ ((.cptr ((a0.map encTVar).getD (x3.2.2 : Int).toNat []) 0 : DV) = .cptr [.str ((a0.getD (x3.2.2 : Int).toNat default).fName), .str ((a0.getD (x3.2.2 : Int).toNat default).fValue), .bool ((a0.getD (x3.2.2 : Int).toNat default).fSet), .bool ((a0.getD (x3.2.2 : Int).toNat default).fExport), .bool ((a0.getD (x3.2.2 : Int).toNat default).fReadonly)] 0)) ∧ ((True ∧ (1 ≠ 0)) ∧ ((True ∧ (0 < 5)) ∧ ((True ∧ (1 ≠ 0)) ∧ ((True ∧ (0 < 5)) ∧ ((True ∧ (True ∧ True)) ∧ True))))))))) mixed (by kernel_rfl) (by kernel_rfl) ⟨trivial, ⟨trivial, ⟨⟨⟨trivial, ⟨trivial, ⟨o15, ⟨(lt_map o16), rfl⟩⟩⟩⟩, (congrArg (fun c => DV.cptr c 0) (getD_encI encTVar a0 (x3.2.2 : Int) o15 o16))⟩, ⟨⟨trivial, (by decide)⟩, ⟨⟨trivial, (by decide)⟩, ⟨⟨trivial, (by decide)⟩, ⟨⟨trivial, (by decide)⟩, ⟨⟨trivial, ⟨trivial, trivial⟩⟩, trivial⟩⟩⟩⟩⟩⟩⟩⟩ ?_
            refine AWp.cond (b := !(((a0.getD (x3.2.2 : Int).toNat default).fName) == a1.fName)) (by kernel_rfl) trivial (fun c17 => ?_) (fun c17 => ?_)
            · have h := cond_t c17 h
              obtain ⟨⟨o18, o19⟩, h⟩ := req_some h
              refine AWp.tailN [0, 3, 5, 6, 7] [] (tg := [5, 38, 44]) (H := [(41, .cptr [.str ((a0.getD (x3.2.2 : Int).toNat default).fName), .str ((a0.getD (x3.2.2 : Int).toNat default).fValue), .bool ((a0.getD (x3.2.2 : Int).toNat default).fSet), .bool ((a0.getD (x3.2.2 : Int).toNat default).fExport), .bool ((a0.getD (x3.2.2 : Int).toNat default).fReadonly)] 0), (43, .slice 5 ([(a0.getD (x3.2.2 : Int).toNat default)].map encTVar)), (44, .slice 5 ((s8.1 ++ [(a0.getD (x3.2.2 : Int).toNat default)]).map encTVar))]) (st' := ⟨sp [(0, .slice 5 (a0.map encTVar)), (3, .ptr true 0 0), (5, .slice 5 ((s8.1 ++ [(a0.getD (x3.2.2 : Int).toNat default)]).map encTVar)), (6, .bool s8.2), (7, .int .i64 x3.2.2)] 0 52, [.cells 26 [.str a1.fName, .str a1.fValue, .bool a1.fSet, .bool a1.fExport, .bool a1.fReadonly]], [], [⟨.slot 5, 26, 5⟩]⟩) (ob := (True ∧ (True ∧ (True ∧ (((True ∧ (True ∧ (((0 : Int) ≤ x3.2.2) ∧ ((x3.2.2 < ((a0.map encTVar).length : Int)) ∧ (5 = 5))))) ∧ ((.cptr ((a0.map encTVar).getD (x3.2.2 : Int).toNat []) 0 : DV) = .cptr [.str ((a0.getD (x3.2.2 : Int).toNat default).fName), .str ((a0.getD (x3.2.2 : Int).toNat default).fValue), .bool ((a0.getD (x3.2.2 : Int).toNat default).fSet), .bool ((a0.getD (x3.2.2 : Int).toNat default).fExport), .bool ((a0.getD (x3.2.2 : Int).toNat default).fReadonly)] 0)) ∧ ((True ∧ (0 + 5 ≤ 5)) ∧ ((((true = true) ∧ (True ∧ ((true = true) ∧ True))) ∧ ((.slice 5 [[.str ((a0.getD (x3.2.2 : Int).toNat default).fName), .str ((a0.getD (x3.2.2 : Int).toNat default).fValue), .bool ((a0.getD (x3.2.2 : Int).toNat default).fSet), .bool ((a0.getD (x3.2.2 : Int).toNat default).fExport), .bool ((a0.getD (x3.2.2 : Int).toNat default).fReadonly)]] : DV) = .slice 5 ([(a0.getD (x3.2.2 : Int).toNat default)].map encTVar))) ∧ (((True ∧ (True ∧ ((true = true) ∧ ((((s8.1.map encTVar) : List (List DV)).length + (([(a0.getD (x3.2.2 : Int).toNat default)].map encTVar) : List (List DV)).length ≤ 9223372036854775807) ∧ ((((s8.1.map encTVar) : List (List DV)).length + (([(a0.getD (x3.2.2 : Int).toNat default)].map encTVar) : List (List DV)).length) * 40 ≤ 140737488355328))))) ∧ ((.slice 5 ((s8.1.map encTVar) ++ ([(a0.getD (x3.2.2 : Int).toNat default)].map encTVar)) : DV) = .slice 5 ((s8.1 ++ [(a0.getD (x3.2.2 : Int).toNat default)]).map encTVar))) ∧ (True ∧ True))))))))) (by kernel_rfl) ⟨trivial, ⟨trivial, ⟨trivial, ⟨⟨⟨trivial, ⟨trivial, ⟨o15, ⟨(lt_map o16), rfl⟩⟩⟩⟩, (congrArg (fun c => DV.cptr c 0) (getD_encI encTVar a0 (x3.2.2 : Int) o15 o16))⟩, ⟨⟨trivial, (by decide)⟩, ⟨⟨⟨rfl, ⟨trivial, ⟨rfl, trivial⟩⟩⟩, rfl⟩, ⟨⟨⟨trivial, ⟨trivial, ⟨rfl, ⟨(by simpa using o18), (by simpa using o19)⟩⟩⟩⟩, (congrArg (DV.slice 5) (List.map_append (f := encTVar) (l₁ := s8.1) (l₂ := [(a0.getD (x3.2.2 : Int).toNat default)])).symm)⟩, ⟨trivial, trivial⟩⟩⟩⟩⟩⟩⟩⟩ ?_
              obtain rfl := Option.some.inj h
              exact ⟨⟨.inr ⟨rfl, rfl⟩, ⟨.inl rfl, ⟨.inl rfl, ⟨.inr ⟨rfl, rfl⟩, ⟨.inl rfl, ⟨.inr ⟨rfl, rfl⟩, ⟨.inr ⟨rfl, rfl⟩, ⟨.inr ⟨rfl, rfl⟩, ⟨.inl rfl, ⟨.inl rfl, ⟨.inl rfl, ⟨.inl rfl, ⟨.inl rfl, ⟨.inl rfl, ⟨.inl rfl, ⟨.inl rfl, ⟨.inl rfl, ⟨.inl rfl, ⟨.inl rfl, ⟨.inl rfl, ⟨.inl rfl, ⟨.inl rfl, ⟨.inl rfl, ⟨.inl rfl, ⟨.inl rfl, ⟨.inl rfl, ⟨.inl rfl, ⟨.inl rfl, ⟨.inl rfl, ⟨.inl rfl, ⟨.inl rfl, ⟨.inl rfl, ⟨.inl rfl, ⟨.inl rfl, ⟨.inl rfl, ⟨.inl rfl, ⟨.inl rfl, ⟨.inl rfl, ⟨.inl rfl, ⟨.inl rfl, ⟨.inl rfl, ⟨.inl rfl, ⟨.inl rfl, ⟨.inl rfl, ⟨.inl rfl, ⟨.inl rfl, ⟨.inl rfl, ⟨.inl rfl, ⟨.inl rfl, ⟨.inl rfl, ⟨.inl rfl, ⟨.inl rfl, trivial⟩⟩⟩⟩⟩⟩⟩⟩⟩⟩⟩⟩⟩⟩⟩⟩⟩⟩⟩⟩⟩⟩⟩⟩⟩⟩⟩⟩⟩⟩⟩⟩⟩⟩⟩⟩⟩⟩⟩⟩⟩⟩⟩⟩⟩⟩⟩⟩⟩⟩⟩⟩, rfl, rfl, rfl, ⟨_, (.cons_cons _ .slnil), (.refl _)⟩, rfl⟩
            · have h := cond_f c17 h
              refine AWp.skip ?_
              obtain rfl := Option.some.inj h
              exact ⟨⟨.inr ⟨rfl, rfl⟩, ⟨.inl rfl, ⟨.inl rfl, ⟨.inr ⟨rfl, rfl⟩, ⟨.inl rfl, ⟨.inr ⟨rfl, rfl⟩, ⟨.inr ⟨rfl, rfl⟩, ⟨.inr ⟨rfl, rfl⟩, ⟨.inl rfl, ⟨.inl rfl, ⟨.inl rfl, ⟨.inl rfl, ⟨.inl rfl, ⟨.inl rfl, ⟨.inl rfl, ⟨.inl rfl, ⟨.inl rfl, ⟨.inl rfl, ⟨.inl rfl, ⟨.inl rfl, ⟨.inl rfl, ⟨.inl rfl, ⟨.inl rfl, ⟨.inl rfl, ⟨.inl rfl, ⟨.inl rfl, ⟨.inl rfl, ⟨.inl rfl, ⟨.inl rfl, ⟨.inl rfl, ⟨.inl rfl, ⟨.inl rfl, ⟨.inl rfl, ⟨.inl rfl, ⟨.inl rfl, ⟨.inl rfl, ⟨.inl rfl, ⟨.inl rfl, ⟨.inl rfl, ⟨.inl rfl, ⟨.inl rfl, ⟨.inl rfl, ⟨.inl rfl, ⟨.inl rfl, ⟨.inl rfl, ⟨.inl rfl, ⟨.inl rfl, ⟨.inl rfl, ⟨.inl rfl, ⟨.inl rfl, ⟨.inl rfl, ⟨.inl rfl, trivial⟩⟩⟩⟩⟩⟩⟩⟩⟩⟩⟩⟩⟩⟩⟩⟩⟩⟩⟩⟩⟩⟩⟩⟩⟩⟩⟩⟩⟩⟩⟩⟩⟩⟩⟩⟩⟩⟩⟩⟩⟩⟩⟩⟩⟩⟩⟩⟩⟩⟩⟩⟩, rfl, rfl, rfl, ⟨_, (.cons_cons _ .slnil), (.refl _)⟩, rfl⟩
        · skip
          refine AWp.tailN [0, 3, 5, 6, 7] [] (tg := [7, 13]) (H := []) (st' := ⟨sp [(0, .slice 5 (a0.map encTVar)), (3, .ptr true 0 0), (5, .slice 5 (s6.1.map encTVar)), (6, .bool s6.2), (7, .int .i64 (IntKind.i64.wrap (x3.2.2 + 1)))] 0 52, [.cells 26 [.str a1.fName, .str a1.fValue, .bool a1.fSet, .bool a1.fExport, .bool a1.fReadonly]], [], [⟨.slot 5, 26, 5⟩]⟩) (ob := (True ∧ ((True ∧ (True ∧ (IntKind.i64 = IntKind.i64))) ∧ (True ∧ True)))) (by kernel_rfl) ⟨trivial, ⟨⟨trivial, ⟨trivial, rfl⟩⟩, ⟨trivial, trivial⟩⟩⟩ ?_
          exact ⟨⟨(n4, (s6.1, s6.2, IntKind.i64.wrap (x3.2.2 + 1))), h⟩, Nat.lt_succ_self _, ⟨⟨.inr ⟨rfl, rfl⟩, ⟨.inl rfl, ⟨.inl rfl, ⟨.inr ⟨rfl, rfl⟩, ⟨.inl rfl, ⟨.inr ⟨rfl, rfl⟩, ⟨.inr ⟨rfl, rfl⟩, ⟨.inr ⟨rfl, rfl⟩, ⟨.inl rfl, ⟨.inl rfl, ⟨.inl rfl, ⟨.inl rfl, ⟨.inl rfl, ⟨.inl rfl, ⟨.inl rfl, ⟨.inl rfl, ⟨.inl rfl, ⟨.inl rfl, ⟨.inl rfl, ⟨.inl rfl, ⟨.inl rfl, ⟨.inl rfl, ⟨.inl rfl, ⟨.inl rfl, ⟨.inl rfl, ⟨.inl rfl, ⟨.inl rfl, ⟨.inl rfl, ⟨.inl rfl, ⟨.inl rfl, ⟨.inl rfl, ⟨.inl rfl, ⟨.inl rfl, ⟨.inl rfl, ⟨.inl rfl, ⟨.inl rfl, ⟨.inl rfl, ⟨.inl rfl, ⟨.inl rfl, ⟨.inl rfl, ⟨.inl rfl, ⟨.inl rfl, ⟨.inl rfl, ⟨.inl rfl, ⟨.inl rfl, ⟨.inl rfl, ⟨.inl rfl, ⟨.inl rfl, ⟨.inl rfl, ⟨.inl rfl, ⟨.inl rfl, ⟨.inl rfl, trivial⟩⟩⟩⟩⟩⟩⟩⟩⟩⟩⟩⟩⟩⟩⟩⟩⟩⟩⟩⟩⟩⟩⟩⟩⟩⟩⟩⟩⟩⟩⟩⟩⟩⟩⟩⟩⟩⟩⟩⟩⟩⟩⟩⟩⟩⟩⟩⟩⟩⟩⟩⟩, rfl, rfl, rfl, ⟨_, (.cons_cons _ .slnil), (.refl _)⟩, rfl⟩⟩
      · have h := cond_f c5 h
        refine AWp.exit ?_
        obtain rfl := Option.some.inj h
        exact ⟨⟨.inl rfl, ⟨.inl rfl, ⟨.inl rfl, ⟨.inr ⟨rfl, rfl⟩, ⟨.inl rfl, ⟨.inr ⟨rfl, rfl⟩, ⟨.inr ⟨rfl, rfl⟩, ⟨.inl rfl, ⟨.inl rfl, ⟨.inl rfl, ⟨.inl rfl, ⟨.inl rfl, ⟨.inl rfl, ⟨.inl rfl, ⟨.inl rfl, ⟨.inl rfl, ⟨.inl rfl, ⟨.inl rfl, ⟨.inl rfl, ⟨.inl rfl, ⟨.inl rfl, ⟨.inl rfl, ⟨.inl rfl, ⟨.inl rfl, ⟨.inl rfl, ⟨.inl rfl, ⟨.inl rfl, ⟨.inl rfl, ⟨.inl rfl, ⟨.inl rfl, ⟨.inl rfl, ⟨.inl rfl, ⟨.inl rfl, ⟨.inl rfl, ⟨.inl rfl, ⟨.inl rfl, ⟨.inl rfl, ⟨.inl rfl, ⟨.inl rfl, ⟨.inl rfl, ⟨.inl rfl, ⟨.inl rfl, ⟨.inl rfl, ⟨.inl rfl, ⟨.inl rfl, ⟨.inl rfl, ⟨.inl rfl, ⟨.inl rfl, ⟨.inl rfl, ⟨.inl rfl, ⟨.inl rfl, ⟨.inl rfl, trivial⟩⟩⟩⟩⟩⟩⟩⟩⟩⟩⟩⟩⟩⟩⟩⟩⟩⟩⟩⟩⟩⟩⟩⟩⟩⟩⟩⟩⟩⟩⟩⟩⟩⟩⟩⟩⟩⟩⟩⟩⟩⟩⟩⟩⟩⟩⟩⟩⟩⟩⟩⟩, rfl, rfl, rfl, ⟨_, (.cons_cons _ .slnil), (.refl _)⟩, rfl⟩
  · skip
    obtain ⟨s5, e6, h⟩ := bind_some h
    refine AWp.seqMid ⟨sp [(5, .slice 5 (s5.map encTVar))] 0 52, [.cells 26 [.str a1.fName, .str a1.fValue, .bool a1.fSet, .bool a1.fExport, .bool a1.fReadonly]], [], [⟨.slot 5, 26, 5⟩]⟩ ?_ ?_
    ·
      refine AWp.seqX [3, 5, 46] (tg := []) (H := []) (st' := ⟨sp [(3, .ptr true 0 0), (5, .slice 5 (s1.1.map encTVar)), (46, .bool (!s1.2))] 0 52, [.cells 26 [.str a1.fName, .str a1.fValue, .bool a1.fSet, .bool a1.fExport, .bool a1.fReadonly]], [], [⟨.slot 5, 26, 5⟩]⟩) (ob := (True ∧ (True ∧ True))) (by kernel_rfl) ⟨trivial, ⟨trivial, trivial⟩⟩ ?_
      refine AWp.cond (b := !s1.2) (by kernel_rfl) trivial (fun c7 => ?_) (fun c7 => ?_)
      · have h := cond_t c7 e6
        obtain ⟨⟨o8, o9⟩, h⟩ := req_some h
        refine AWp.tailN [5] [] (tg := [5, 47, 50]) (H := [(49, .slice 5 ([a1].map encTVar)), (50, .slice 5 ((s1.1 ++ [a1]).map encTVar))]) (st' := ⟨sp [(5, .slice 5 ((s1.1 ++ [a1]).map encTVar))] 0 52, [.cells 26 [.str a1.fName, .str a1.fValue, .bool a1.fSet, .bool a1.fExport, .bool a1.fReadonly]], [], [⟨.slot 5, 26, 5⟩]⟩) (ob := (True ∧ ((True ∧ (0 + 5 ≤ 5)) ∧ ((((true = true) ∧ (True ∧ ((true = true) ∧ True))) ∧ ((.slice 5 [[.str a1.fName, .str a1.fValue, .bool a1.fSet, .bool a1.fExport, .bool a1.fReadonly]] : DV) = .slice 5 ([a1].map encTVar))) ∧ (((True ∧ (True ∧ ((true = true) ∧ ((((s1.1.map encTVar) : List (List DV)).length + (([a1].map encTVar) : List (List DV)).length ≤ 9223372036854775807) ∧ ((((s1.1.map encTVar) : List (List DV)).length + (([a1].map encTVar) : List (List DV)).length) * 40 ≤ 140737488355328))))) ∧ ((.slice 5 ((s1.1.map encTVar) ++ ([a1].map encTVar)) : DV) = .slice 5 ((s1.1 ++ [a1]).map encTVar))) ∧ (True ∧ True)))))) (by kernel_rfl) ⟨trivial, ⟨⟨trivial, (by decide)⟩, ⟨⟨⟨rfl, ⟨trivial, ⟨rfl, trivial⟩⟩⟩, rfl⟩, ⟨⟨⟨trivial, ⟨trivial, ⟨rfl, ⟨(by simpa using o8), (by simpa using o9)⟩⟩⟩⟩, (congrArg (DV.slice 5) (List.map_append (f := encTVar) (l₁ := s1.1) (l₂ := [a1])).symm)⟩, ⟨trivial, trivial⟩⟩⟩⟩⟩ ?_
        obtain rfl := Option.some.inj h
        exact ⟨⟨.inl rfl, ⟨.inl rfl, ⟨.inl rfl, ⟨.inl rfl, ⟨.inl rfl, ⟨.inr ⟨rfl, rfl⟩, ⟨.inl rfl, ⟨.inl rfl, ⟨.inl rfl, ⟨.inl rfl, ⟨.inl rfl, ⟨.inl rfl, ⟨.inl rfl, ⟨.inl rfl, ⟨.inl rfl, ⟨.inl rfl, ⟨.inl rfl, ⟨.inl rfl, ⟨.inl rfl, ⟨.inl rfl, ⟨.inl rfl, ⟨.inl rfl, ⟨.inl rfl, ⟨.inl rfl, ⟨.inl rfl, ⟨.inl rfl, ⟨.inl rfl, ⟨.inl rfl, ⟨.inl rfl, ⟨.inl rfl, ⟨.inl rfl, ⟨.inl rfl, ⟨.inl rfl, ⟨.inl rfl, ⟨.inl rfl, ⟨.inl rfl, ⟨.inl rfl, ⟨.inl rfl, ⟨.inl rfl, ⟨.inl rfl, ⟨.inl rfl, ⟨.inl rfl, ⟨.inl rfl, ⟨.inl rfl, ⟨.inl rfl, ⟨.inl rfl, ⟨.inl rfl, ⟨.inl rfl, ⟨.inl rfl, ⟨.inl rfl, ⟨.inl rfl, ⟨.inl rfl, trivial⟩⟩⟩⟩⟩⟩⟩⟩⟩⟩⟩⟩⟩⟩⟩⟩⟩⟩⟩⟩⟩⟩⟩⟩⟩⟩⟩⟩⟩⟩⟩⟩⟩⟩⟩⟩⟩⟩⟩⟩⟩⟩⟩⟩⟩⟩⟩⟩⟩⟩⟩⟩, rfl, rfl, rfl, ⟨_, (.cons_cons _ .slnil), (.refl _)⟩, rfl⟩
      · have h := cond_f c7 e6
        refine AWp.skip ?_
        obtain rfl := Option.some.inj h
        exact ⟨⟨.inl rfl, ⟨.inl rfl, ⟨.inl rfl, ⟨.inl rfl, ⟨.inl rfl, ⟨.inr ⟨rfl, rfl⟩, ⟨.inl rfl, ⟨.inl rfl, ⟨.inl rfl, ⟨.inl rfl, ⟨.inl rfl, ⟨.inl rfl, ⟨.inl rfl, ⟨.inl rfl, ⟨.inl rfl, ⟨.inl rfl, ⟨.inl rfl, ⟨.inl rfl, ⟨.inl rfl, ⟨.inl rfl, ⟨.inl rfl, ⟨.inl rfl, ⟨.inl rfl, ⟨.inl rfl, ⟨.inl rfl, ⟨.inl rfl, ⟨.inl rfl, ⟨.inl rfl, ⟨.inl rfl, ⟨.inl rfl, ⟨.inl rfl, ⟨.inl rfl, ⟨.inl rfl, ⟨.inl rfl, ⟨.inl rfl, ⟨.inl rfl, ⟨.inl rfl, ⟨.inl rfl, ⟨.inl rfl, ⟨.inl rfl, ⟨.inl rfl, ⟨.inl rfl, ⟨.inl rfl, ⟨.inl rfl, ⟨.inl rfl, ⟨.inl rfl, ⟨.inl rfl, ⟨.inl rfl, ⟨.inl rfl, ⟨.inl rfl, ⟨.inl rfl, ⟨.inl rfl, trivial⟩⟩⟩⟩⟩⟩⟩⟩⟩⟩⟩⟩⟩⟩⟩⟩⟩⟩⟩⟩⟩⟩⟩⟩⟩⟩⟩⟩⟩⟩⟩⟩⟩⟩⟩⟩⟩⟩⟩⟩⟩⟩⟩⟩⟩⟩⟩⟩⟩⟩⟩⟩, rfl, rfl, rfl, ⟨_, (.cons_cons _ .slnil), (.refl _)⟩, rfl⟩
    · skip
      refine AWp.seqX [4] (tg := [4, 51]) (H := []) (st' := ⟨sp [(4, .slice 5 (s5.map encTVar))] 0 52, [.cells 26 [.str a1.fName, .str a1.fValue, .bool a1.fSet, .bool a1.fExport, .bool a1.fReadonly]], [], [⟨.slot 4, 26, 5⟩]⟩) (ob := (True ∧ (True ∧ True))) (by kernel_rfl) ⟨trivial, ⟨trivial, trivial⟩⟩ ?_
      refine AWp.ret ?_
      obtain rfl := Option.some.inj h
      exact ⟨[.slice 5 (s5.map encTVar)], (True ∧ True), by kernel_rfl, ⟨trivial, trivial⟩, by kernel_rfl, ACalls.eq_of rfl rfl rfl rfl⟩
def ref15_Set (fuel : Nat) (a0 : List TVar) (a1 : List UInt8) (a2 : List UInt8) : Option ((List TVar) × Int) :=
  (ref15_Get fuel a0 a1).bind (fun r1 =>
    (ref01_Name fuel a1).bind (fun r3 =>
      cond (!r3) (
        some (a0, 10)) (
        cond r1.1.fReadonly (
          some (a0, 11)) (
          cond (decide (4096 < (a2.length : Int))) (
            some (a0, 3)) (
            cond (cond (!r1.2) (decide (128 ≤ (a0.length : Int))) false) (
              some (a0, 4)) (
              (ref15_put fuel a0 (TVar.mk a1 a2 true r1.1.fExport false)).bind (fun r9 =>
                some (r9, 0))))))))
theorem ref15_Set_ok (fuel : Nat) (a0 : List TVar) (a1 : List UInt8) (a2 : List UInt8) (r : (List TVar) × Int) (h : ref15_Set fuel a0 a1 a2 = some r) : ACalls Try.prog 18 [.slice 5 (a0.map encTVar), .str a1, .str a2] [] (fun q => q = ⟨.tuple [.slice 5 (r.1.map encTVar), .int .i64 r.2], [], [], []⟩) := by
  unfold ref15_Set at h
  refine ACalls.noown ?_
  refine ACalls.intro (fn := Try.f18) Try.func18 rfl ?_
  refine AWp.keep [0, 1, 2] (st' := ⟨sp [(0, .slice 5 (a0.map encTVar)), (1, .str a1), (2, .str a2)] 0 46, [], [], []⟩) (by kernel_rfl) ?_
  refine AWp.seqX [0, 1, 2] (tg := []) (H := []) (st' := ⟨sp [(0, .slice 5 (a0.map encTVar)), (1, .str a1), (2, .str a2)] 0 46, [], [], []⟩) (ob := (True ∧ (True ∧ True))) (by kernel_rfl) ⟨trivial, ⟨trivial, trivial⟩⟩ ?_
  refine AWp.seqO ?_
  refine AOps.runK [0, 1, 2, 11, 12] 2 (tg := [9, 14, 15]) (H := []) (st' := ⟨sp [(0, .slice 5 (a0.map encTVar)), (1, .str a1), (2, .str a2), (11, .slice 5 (a0.map encTVar)), (12, .str a1)] 0 46, [], [], []⟩) (ob := (True ∧ (True ∧ True))) (by kernel_rfl) ⟨trivial, ⟨trivial, trivial⟩⟩ ?_
  obtain ⟨r1, e2, h⟩ := bind_some h
  refine AOps.call1 (ds := [.slice 5 (a0.map encTVar), .str a1]) (d := .tuple [.agg [.str r1.1.fName, .str r1.1.fValue, .bool r1.1.fSet, .bool r1.1.fExport, .bool r1.1.fReadonly], .bool r1.2]) (ow := []) (st' := ⟨sp [(0, .slice 5 (a0.map encTVar)), (1, .str a1), (2, .str a2), (11, .slice 5 (a0.map encTVar)), (12, .str a1), (13, .tuple [.agg [.str r1.1.fName, .str r1.1.fValue, .bool r1.1.fSet, .bool r1.1.fExport, .bool r1.1.fReadonly], .bool r1.2])] 0 46, [], [], []⟩) (by kernel_rfl) fk13 (by kernel_rfl) ⟨trivial, ⟨trivial, trivial⟩⟩ (by kernel_rfl) (ref15_Get_ok fuel a0 a1 r1 e2) (by kernel_rfl) ?_
  refine AOps.runK [0, 1, 2, 8, 9] 6 (tg := [9, 14, 15]) (H := []) (st' := ⟨sp [(0, .slice 5 (a0.map encTVar)), (1, .str a1), (2, .str a2), (8, .ptr true 0 0), (9, .bool r1.2)] 0 46, [.cells 26 [.str r1.1.fName, .str r1.1.fValue, .bool r1.1.fSet, .bool r1.1.fExport, .bool r1.1.fReadonly]], [], []⟩) (ob := (True ∧ ((True ∧ (0 < 2)) ∧ ((True ∧ (1 < 2)) ∧ ((true = true) ∧ ((True ∧ (True ∧ ((true = true) ∧ (0 + 5 ≤ 5)))) ∧ (True ∧ True))))))) (by kernel_rfl) ⟨trivial, ⟨⟨trivial, (by decide)⟩, ⟨⟨trivial, (by decide)⟩, ⟨rfl, ⟨⟨trivial, ⟨trivial, ⟨rfl, (by decide)⟩⟩⟩, ⟨trivial, trivial⟩⟩⟩⟩⟩⟩ ?_
  refine AOps.done ?_
  refine AWp.seq ?_
  refine AWp.block ?_
  refine AWp.seqO ?_
  refine AOps.runK [0, 1, 2, 8, 9, 17] 1 (tg := [16, 19]) (H := []) (st' := ⟨sp [(0, .slice 5 (a0.map encTVar)), (1, .str a1), (2, .str a2), (8, .ptr true 0 0), (9, .bool r1.2), (17, .str a1)] 0 46, [.cells 26 [.str r1.1.fName, .str r1.1.fValue, .bool r1.1.fSet, .bool r1.1.fExport, .bool r1.1.fReadonly]], [], []⟩) (ob := (True ∧ True)) (by kernel_rfl) ⟨trivial, trivial⟩ ?_
  obtain ⟨r3, e4, h⟩ := bind_some h
  refine AOps.call1 (ds := [.str a1]) (d := .bool r3) (ow := []) (st' := ⟨sp [(0, .slice 5 (a0.map encTVar)), (1, .str a1), (2, .str a2), (8, .ptr true 0 0), (9, .bool r1.2), (17, .str a1), (18, .bool r3)] 0 46, [.cells 26 [.str r1.1.fName, .str r1.1.fValue, .bool r1.1.fSet, .bool r1.1.fExport, .bool r1.1.fReadonly]], [], []⟩) (by kernel_rfl) fk33 (by kernel_rfl) ⟨trivial, trivial⟩ (by kernel_rfl) (ref01_Name_ok fuel a1 r3 e4) (by kernel_rfl) ?_
  refine AOps.runK [0, 1, 2, 8, 9, 16] 2 (tg := [16, 19]) (H := []) (st' := ⟨sp [(0, .slice 5 (a0.map encTVar)), (1, .str a1), (2, .str a2), (8, .ptr true 0 0), (9, .bool r1.2), (16, .bool (!r3))] 0 46, [.cells 26 [.str r1.1.fName, .str r1.1.fValue, .bool r1.1.fSet, .bool r1.1.fExport, .bool r1.1.fReadonly]], [], []⟩) (ob := (True ∧ (True ∧ True))) (by kernel_rfl) ⟨trivial, ⟨trivial, trivial⟩⟩ ?_
  refine AOps.done ?_
  refine AWp.cond (b := !r3) (by kernel_rfl) trivial (fun c5 => ?_) (fun c5 => ?_)
  · have h := cond_t c5 h
    refine AWp.seqX [6, 7] (tg := [6, 20]) (H := []) (st' := ⟨sp [(6, .slice 5 (a0.map encTVar)), (7, .int .i64 10)] 0 46, [.cells 26 [.str r1.1.fName, .str r1.1.fValue, .bool r1.1.fSet, .bool r1.1.fExport, .bool r1.1.fReadonly]], [], []⟩) (ob := (True ∧ (True ∧ (True ∧ True)))) (by kernel_rfl) ⟨trivial, ⟨trivial, ⟨trivial, trivial⟩⟩⟩ ?_
    refine AWp.ret ?_
    obtain rfl := Option.some.inj h
    exact ⟨[.slice 5 (a0.map encTVar), .int .i64 10], (True ∧ (True ∧ True)), by kernel_rfl, ⟨trivial, ⟨trivial, trivial⟩⟩, by kernel_rfl, ⟨rfl, rfl, rfl⟩⟩
  · have h := cond_f c5 h
    refine AWp.seqX [0, 1, 2, 8, 9, 21] (tg := [21, 23]) (H := []) (st' := ⟨sp [(0, .slice 5 (a0.map encTVar)), (1, .str a1), (2, .str a2), (8, .ptr true 0 0), (9, .bool r1.2), (21, .bool r1.1.fReadonly)] 0 46, [.cells 26 [.str r1.1.fName, .str r1.1.fValue, .bool r1.1.fSet, .bool r1.1.fExport, .bool r1.1.fReadonly]], [], []⟩) (ob := ((True ∧ (1 ≠ 0)) ∧ ((True ∧ (4 < 5)) ∧ (True ∧ True)))) (by kernel_rfl) ⟨⟨trivial, (by decide)⟩, ⟨⟨trivial, (by decide)⟩, ⟨trivial, trivial⟩⟩⟩ ?_
    refine AWp.cond (b := r1.1.fReadonly) (by kernel_rfl) trivial (fun c6 => ?_) (fun c6 => ?_)
    · have h := cond_t c6 h
      refine AWp.seqX [6, 7] (tg := [6, 24]) (H := []) (st' := ⟨sp [(6, .slice 5 (a0.map encTVar)), (7, .int .i64 11)] 0 46, [.cells 26 [.str r1.1.fName, .str r1.1.fValue, .bool r1.1.fSet, .bool r1.1.fExport, .bool r1.1.fReadonly]], [], []⟩) (ob := (True ∧ (True ∧ (True ∧ True)))) (by kernel_rfl) ⟨trivial, ⟨trivial, ⟨trivial, trivial⟩⟩⟩ ?_
      refine AWp.ret ?_
      obtain rfl := Option.some.inj h
      exact ⟨[.slice 5 (a0.map encTVar), .int .i64 11], (True ∧ (True ∧ True)), by kernel_rfl, ⟨trivial, ⟨trivial, trivial⟩⟩, by kernel_rfl, ⟨rfl, rfl, rfl⟩⟩
    · have h := cond_f c6 h
      refine AWp.seqX [0, 1, 2, 8, 9, 25] (tg := [25, 28]) (H := []) (st' := ⟨sp [(0, .slice 5 (a0.map encTVar)), (1, .str a1), (2, .str a2), (8, .ptr true 0 0), (9, .bool r1.2), (25, .bool (decide (4096 < (a2.length : Int))))] 0 46, [.cells 26 [.str r1.1.fName, .str r1.1.fValue, .bool r1.1.fSet, .bool r1.1.fExport, .bool r1.1.fReadonly]], [], []⟩) (ob := (True ∧ ((True ∧ True) ∧ ((True ∧ (True ∧ (IntKind.i64 = IntKind.i64))) ∧ (True ∧ True))))) (by kernel_rfl) ⟨trivial, ⟨⟨trivial, trivial⟩, ⟨⟨trivial, ⟨trivial, rfl⟩⟩, ⟨trivial, trivial⟩⟩⟩⟩ ?_
      refine AWp.cond (b := decide (4096 < (a2.length : Int))) (by kernel_rfl) trivial (fun c7 => ?_) (fun c7 => ?_)
      · have h := cond_t c7 h
        refine AWp.seqX [6, 7] (tg := [6, 29]) (H := []) (st' := ⟨sp [(6, .slice 5 (a0.map encTVar)), (7, .int .i64 3)] 0 46, [.cells 26 [.str r1.1.fName, .str r1.1.fValue, .bool r1.1.fSet, .bool r1.1.fExport, .bool r1.1.fReadonly]], [], []⟩) (ob := (True ∧ (True ∧ (True ∧ True)))) (by kernel_rfl) ⟨trivial, ⟨trivial, ⟨trivial, trivial⟩⟩⟩ ?_
        refine AWp.ret ?_
        obtain rfl := Option.some.inj h
        exact ⟨[.slice 5 (a0.map encTVar), .int .i64 3], (True ∧ (True ∧ True)), by kernel_rfl, ⟨trivial, ⟨trivial, trivial⟩⟩, by kernel_rfl, ⟨rfl, rfl, rfl⟩⟩
      · have h := cond_f c7 h
        refine AWp.seqX [0, 1, 2, 8, 30] (tg := [30, 37]) (H := [(35, .int .i64 (a0.length : Int))]) (st' := ⟨sp [(0, .slice 5 (a0.map encTVar)), (1, .str a1), (2, .str a2), (8, .ptr true 0 0), (30, .bool (cond (!r1.2) (decide (128 ≤ (a0.length : Int))) false))] 0 46, [.cells 26 [.str r1.1.fName, .str r1.1.fValue, .bool r1.1.fSet, .bool r1.1.fExport, .bool r1.1.fReadonly]], [], []⟩) (ob := (True ∧ (True ∧ (True ∧ ((((!r1.2) == true) = true → True) ∧ ((((!r1.2) == true) = true → ((((((!r1.2) == true) = true) ∧ True) ∧ True) ∧ ((.int .i64 ((a0.map encTVar).length : Int) : DV) = .int .i64 (a0.length : Int)))) ∧ ((((!r1.2) == true) = true → (((((!r1.2) == true) = true) ∧ True) ∧ (True ∧ (IntKind.i64 = IntKind.i64)))) ∧ ((True ∧ (((!r1.2) = true → ((((!r1.2) == true) = true) ∧ True)) ∧ ((!r1.2) = false → True))) ∧ (True ∧ True))))))))) (by kernel_rfl) ⟨trivial, ⟨trivial, ⟨trivial, ⟨(fun hg0 => trivial), ⟨(fun hg0 => ⟨⟨⟨hg0, trivial⟩, trivial⟩, (congrArg (fun n : Nat => DV.int .i64 n) (List.length_map _))⟩), ⟨(fun hg0 => ⟨⟨hg0, trivial⟩, ⟨trivial, rfl⟩⟩), ⟨⟨trivial, ⟨(fun hg0 => ⟨(beqT hg0), trivial⟩), (fun hg0 => trivial)⟩⟩, ⟨trivial, trivial⟩⟩⟩⟩⟩⟩⟩⟩ ?_
        refine AWp.cond (b := cond (!r1.2) (decide (128 ≤ (a0.length : Int))) false) (by kernel_rfl) trivial (fun c8 => ?_) (fun c8 => ?_)
        · have h := cond_t c8 h
          refine AWp.seqX [6, 7] (tg := [6, 38]) (H := []) (st' := ⟨sp [(6, .slice 5 (a0.map encTVar)), (7, .int .i64 4)] 0 46, [.cells 26 [.str r1.1.fName, .str r1.1.fValue, .bool r1.1.fSet, .bool r1.1.fExport, .bool r1.1.fReadonly]], [], []⟩) (ob := (True ∧ (True ∧ (True ∧ True)))) (by kernel_rfl) ⟨trivial, ⟨trivial, ⟨trivial, trivial⟩⟩⟩ ?_
          refine AWp.ret ?_
          obtain rfl := Option.some.inj h
          exact ⟨[.slice 5 (a0.map encTVar), .int .i64 4], (True ∧ (True ∧ True)), by kernel_rfl, ⟨trivial, ⟨trivial, trivial⟩⟩, by kernel_rfl, ⟨rfl, rfl, rfl⟩⟩
        · have h := cond_f c8 h
          refine AWp.skip ?_
          refine AWp.seqO ?_
          refine AOps.runK [39, 44] 6 (tg := [6, 45]) (H := []) (st' := ⟨sp [(39, .slice 5 (a0.map encTVar)), (44, .agg [.str a1, .str a2, .bool true, .bool r1.1.fExport, .bool false])] 0 46, [.cells 26 [.str r1.1.fName, .str r1.1.fValue, .bool r1.1.fSet, .bool r1.1.fExport, .bool r1.1.fReadonly]], [], []⟩) (ob := (True ∧ (True ∧ (True ∧ ((True ∧ (1 ≠ 0)) ∧ ((True ∧ (3 < 5)) ∧ ((True ∧ ((true = true) ∧ (True ∧ ((true = true) ∧ (True ∧ ((true = true) ∧ (True ∧ ((true = true) ∧ (true = true))))))))) ∧ True))))))) (by kernel_rfl) ⟨trivial, ⟨trivial, ⟨trivial, ⟨⟨trivial, (by decide)⟩, ⟨⟨trivial, (by decide)⟩, ⟨⟨trivial, ⟨rfl, ⟨trivial, ⟨rfl, ⟨trivial, ⟨rfl, ⟨trivial, ⟨rfl, rfl⟩⟩⟩⟩⟩⟩⟩⟩, trivial⟩⟩⟩⟩⟩⟩ ?_
          obtain ⟨r9, e10, h⟩ := bind_some h
          refine AOps.call1 (ds := [.slice 5 (a0.map encTVar), .agg [.str a1, .str a2, .bool true, .bool r1.1.fExport, .bool false]]) (d := .slice 5 (r9.map encTVar)) (ow := [⟨.slot 0, 26, 5⟩]) (st' := ⟨sp [(39, .slice 5 (a0.map encTVar)), (44, .agg [.str a1, .str a2, .bool true, .bool r1.1.fExport, .bool false]), (45, .slice 5 (r9.map encTVar))] 0 46, [.cells 26 [.str r1.1.fName, .str r1.1.fValue, .bool r1.1.fSet, .bool r1.1.fExport, .bool r1.1.fReadonly]], [], [⟨.slot 45, 26, 5⟩]⟩) (by kernel_rfl) fk36 (by kernel_rfl) ⟨trivial, ⟨trivial, trivial⟩⟩ (by kernel_rfl) (ref15_put_ok fuel a0 (TVar.mk a1 a2 true r1.1.fExport false) r9 e10) (by kernel_rfl) ?_
          refine AOps.runK [6, 7] 2 (tg := [6, 45]) (H := []) (st' := ⟨sp [(6, .slice 5 (r9.map encTVar)), (7, .int .i64 0)] 0 46, [.cells 26 [.str r1.1.fName, .str r1.1.fValue, .bool r1.1.fSet, .bool r1.1.fExport, .bool r1.1.fReadonly]], [], [⟨.slot 6, 26, 5⟩]⟩) (ob := (True ∧ (True ∧ True))) (by kernel_rfl) ⟨trivial, ⟨trivial, trivial⟩⟩ ?_
          refine AOps.done ?_
          refine AWp.ret ?_
          obtain rfl := Option.some.inj h
          exact ⟨[.slice 5 (r9.map encTVar), .int .i64 0], (True ∧ (True ∧ True)), by kernel_rfl, ⟨trivial, ⟨trivial, trivial⟩⟩, by kernel_rfl, ⟨rfl, rfl, rfl⟩⟩
def ref15_Unset_l0_b (a0 : List TVar) (a1 : List UInt8) (n7 : Nat) (recref15_Unset_l0 : ((List TVar) × Int) → Option (List TVar)) (x6 : (List TVar) × Int) : Option (List TVar) :=
  cond (decide (x6.2 < (a0.length : Int))) (
    (req (((0 : Int) ≤ x6.2) ∧ (x6.2 < (a0.length : Int))) (
        cond (!(((a0.getD (x6.2 : Int).toNat default).fName) == a1)) (
          req ((x6.1.length + 1 ≤ 9223372036854775807) ∧ ((x6.1.length + 1) * 40 ≤ 140737488355328)) (
            some (x6.1 ++ [(a0.getD (x6.2 : Int).toNat default)]))) (
          some x6.1))).bind (fun s9 =>
      recref15_Unset_l0 (s9, IntKind.i64.wrap (x6.2 + 1)))) (
    some x6.1)
def ref15_Unset_l0 (a0 : List TVar) (a1 : List UInt8) : Nat → ((List TVar) × Int) → Option (List TVar)
  | 0, _ => none
  | n + 1, x => ref15_Unset_l0_b a0 a1 n (ref15_Unset_l0 a0 a1 n) x
def ref15_Unset (fuel : Nat) (a0 : List TVar) (a1 : List UInt8) : Option ((List TVar) × Int) :=
  (ref15_Get fuel a0 a1).bind (fun r1 =>
    cond r1.1.fReadonly (
      some (a0, 11)) (
      (ref15_Unset_l0 a0 a1 fuel ([], (0 : Int))).bind (fun s4 =>
        some (s4, 0))))
theorem ref15_Unset_ok (fuel : Nat) (a0 : List TVar) (a1 : List UInt8) (r : (List TVar) × Int) (h : ref15_Unset fuel a0 a1 = some r) : ACalls Try.prog 29 [.slice 5 (a0.map encTVar), .str a1] [] (fun q => q = ⟨.tuple [.slice 5 (r.1.map encTVar), .int .i64 r.2], [], [], []⟩) := by
  unfold ref15_Unset at h
  refine ACalls.noown ?_
  refine ACalls.intro (fn := Try.f29) Try.func29 rfl ?_
  refine AWp.keep [0, 1] (st' := ⟨sp [(0, .slice 5 (a0.map encTVar)), (1, .str a1)] 0 40, [], [], []⟩) (by kernel_rfl) ?_
  refine AWp.seqX [0, 1] (tg := []) (H := []) (st' := ⟨sp [(0, .slice 5 (a0.map encTVar)), (1, .str a1)] 0 40, [], [], []⟩) (ob := (True ∧ (True ∧ True))) (by kernel_rfl) ⟨trivial, ⟨trivial, trivial⟩⟩ ?_
  refine AWp.seq ?_
  refine AWp.seqO ?_
  refine AOps.runK [0, 1, 11, 12] 2 (tg := [7, 14, 15]) (H := []) (st' := ⟨sp [(0, .slice 5 (a0.map encTVar)), (1, .str a1), (11, .slice 5 (a0.map encTVar)), (12, .str a1)] 0 40, [], [], []⟩) (ob := (True ∧ (True ∧ True))) (by kernel_rfl) ⟨trivial, ⟨trivial, trivial⟩⟩ ?_
  obtain ⟨r1, e2, h⟩ := bind_some h
  refine AOps.call1 (ds := [.slice 5 (a0.map encTVar), .str a1]) (d := .tuple [.agg [.str r1.1.fName, .str r1.1.fValue, .bool r1.1.fSet, .bool r1.1.fExport, .bool r1.1.fReadonly], .bool r1.2]) (ow := []) (st' := ⟨sp [(0, .slice 5 (a0.map encTVar)), (1, .str a1), (11, .slice 5 (a0.map encTVar)), (12, .str a1), (13, .tuple [.agg [.str r1.1.fName, .str r1.1.fValue, .bool r1.1.fSet, .bool r1.1.fExport, .bool r1.1.fReadonly], .bool r1.2])] 0 40, [], [], []⟩) (by kernel_rfl) fk13 (by kernel_rfl) ⟨trivial, ⟨trivial, trivial⟩⟩ (by kernel_rfl) (ref15_Get_ok fuel a0 a1 r1 e2) (by kernel_rfl) ?_
  refine AOps.runK [0, 1, 6] 6 (tg := [7, 14, 15]) (H := []) (st' := ⟨sp [(0, .slice 5 (a0.map encTVar)), (1, .str a1), (6, .ptr true 0 0)] 0 40, [.cells 26 [.str r1.1.fName, .str r1.1.fValue, .bool r1.1.fSet, .bool r1.1.fExport, .bool r1.1.fReadonly]], [], []⟩) (ob := (True ∧ ((True ∧ (0 < 2)) ∧ ((True ∧ (1 < 2)) ∧ ((true = true) ∧ ((True ∧ (True ∧ ((true = true) ∧ (0 + 5 ≤ 5)))) ∧ (True ∧ True))))))) (by kernel_rfl) ⟨trivial, ⟨⟨trivial, (by decide)⟩, ⟨⟨trivial, (by decide)⟩, ⟨rfl, ⟨⟨trivial, ⟨trivial, ⟨rfl, (by decide)⟩⟩⟩, ⟨trivial, trivial⟩⟩⟩⟩⟩⟩ ?_
  refine AOps.done ?_
  refine AWp.seqX [0, 1, 17] (tg := []) (H := []) (st' := ⟨sp [(0, .slice 5 (a0.map encTVar)), (1, .str a1), (17, .bool r1.1.fReadonly)] 0 40, [.cells 26 [.str r1.1.fName, .str r1.1.fValue, .bool r1.1.fSet, .bool r1.1.fExport, .bool r1.1.fReadonly]], [], []⟩) (ob := ((True ∧ (1 ≠ 0)) ∧ ((True ∧ (4 < 5)) ∧ True))) (by kernel_rfl) ⟨⟨trivial, (by decide)⟩, ⟨⟨trivial, (by decide)⟩, trivial⟩⟩ ?_
  refine AWp.cond (b := r1.1.fReadonly) (by kernel_rfl) trivial (fun c3 => ?_) (fun c3 => ?_)
  · have h := cond_t c3 h
    refine AWp.seqX [4, 5] (tg := [4, 18]) (H := []) (st' := ⟨sp [(4, .slice 5 (a0.map encTVar)), (5, .int .i64 11)] 0 40, [.cells 26 [.str r1.1.fName, .str r1.1.fValue, .bool r1.1.fSet, .bool r1.1.fExport, .bool r1.1.fReadonly]], [], []⟩) (ob := (True ∧ (True ∧ (True ∧ True)))) (by kernel_rfl) ⟨trivial, ⟨trivial, ⟨trivial, trivial⟩⟩⟩ ?_
    refine AWp.ret ?_
    obtain rfl := Option.some.inj h
    exact ⟨[.slice 5 (a0.map encTVar), .int .i64 11], (True ∧ (True ∧ True)), by kernel_rfl, ⟨trivial, ⟨trivial, trivial⟩⟩, by kernel_rfl, ⟨rfl, rfl, rfl⟩⟩
  · have h := cond_f c3 h
    refine AWp.skip ?_
    refine AWp.seqX [0, 1, 8] (tg := []) (H := []) (st' := ⟨sp [(0, .slice 5 (a0.map encTVar)), (1, .str a1), (8, .val (.slice none 0 0))] 0 40, [.cells 26 [.str r1.1.fName, .str r1.1.fValue, .bool r1.1.fSet, .bool r1.1.fExport, .bool r1.1.fReadonly]], [], []⟩) (ob := (True ∧ True)) (by kernel_rfl) ⟨trivial, trivial⟩ ?_
    refine AWp.nilowns [(8, 26, 5)] (st' := ⟨sp [(0, .slice 5 (a0.map encTVar)), (1, .str a1), (8, .slice 5 [])] 0 40, [.cells 26 [.str r1.1.fName, .str r1.1.fValue, .bool r1.1.fSet, .bool r1.1.fExport, .bool r1.1.fReadonly]], [], [⟨.slot 8, 26, 5⟩]⟩) (by kernel_rfl) (by kernel_rfl) ?_
    obtain ⟨s4, e5, h⟩ := bind_some h
    refine AWp.seqMid ⟨sp [(8, .slice 5 (s4.map encTVar))] 0 40, [.cells 26 [.str r1.1.fName, .str r1.1.fValue, .bool r1.1.fSet, .bool r1.1.fExport, .bool r1.1.fReadonly]], [], [⟨.slot 8, 26, 5⟩]⟩ ?_ ?_
    ·
      refine AWp.seqX [0, 1, 8, 9] (tg := []) (H := []) (st' := ⟨sp [(0, .slice 5 (a0.map encTVar)), (1, .str a1), (8, .slice 5 []), (9, .int .i64 0)] 0 40, [.cells 26 [.str r1.1.fName, .str r1.1.fValue, .bool r1.1.fSet, .bool r1.1.fExport, .bool r1.1.fReadonly]], [], [⟨.slot 8, 26, 5⟩]⟩) (ob := (True ∧ True)) (by kernel_rfl) ⟨trivial, trivial⟩ ?_
      refine AWp.block ?_
      refine AWp.loop (ι := {p : Nat × ((List TVar) × Int) // ref15_Unset_l0 a0 a1 p.1 p.2 = some _}) (fun p => ⟨sp [(0, .slice 5 (a0.map encTVar)), (1, .str a1), (8, .slice 5 (p.1.2.1.map encTVar)), (9, .int .i64 p.1.2.2)] 0 40, [.cells 26 [.str r1.1.fName, .str r1.1.fValue, .bool r1.1.fSet, .bool r1.1.fExport, .bool r1.1.fReadonly]], [], [⟨.slot 8, 26, 5⟩]⟩) (fun p => p.1.1) ⟨(fuel, ([], (0 : Int))), e5⟩ ⟨⟨.inr ⟨rfl, rfl⟩, ⟨.inr ⟨rfl, rfl⟩, ⟨.inl rfl, ⟨.inl rfl, ⟨.inl rfl, ⟨.inl rfl, ⟨.inl rfl, ⟨.inl rfl, ⟨.inr ⟨rfl, rfl⟩, ⟨.inr ⟨rfl, rfl⟩, ⟨.inl rfl, ⟨.inl rfl, ⟨.inl rfl, ⟨.inl rfl, ⟨.inl rfl, ⟨.inl rfl, ⟨.inl rfl, ⟨.inl rfl, ⟨.inl rfl, ⟨.inl rfl, ⟨.inl rfl, ⟨.inl rfl, ⟨.inl rfl, ⟨.inl rfl, ⟨.inl rfl, ⟨.inl rfl, ⟨.inl rfl, ⟨.inl rfl, ⟨.inl rfl, ⟨.inl rfl, ⟨.inl rfl, ⟨.inl rfl, ⟨.inl rfl, ⟨.inl rfl, ⟨.inl rfl, ⟨.inl rfl, ⟨.inl rfl, ⟨.inl rfl, ⟨.inl rfl, ⟨.inl rfl, trivial⟩⟩⟩⟩⟩⟩⟩⟩⟩⟩⟩⟩⟩⟩⟩⟩⟩⟩⟩⟩⟩⟩⟩⟩⟩⟩⟩⟩⟩⟩⟩⟩⟩⟩⟩⟩⟩⟩⟩⟩, rfl, rfl, rfl, ⟨_, (.cons_cons _ .slnil), (.refl _)⟩, rfl⟩ ?_
      rintro ⟨⟨n7, x6⟩, h⟩
      cases n7 with
      | zero => cases h
      | succ n7 =>
        replace h : ref15_Unset_l0_b a0 a1 n7 (ref15_Unset_l0 a0 a1 n7) x6 = some _ := h
        unfold ref15_Unset_l0_b at h
        refine AWp.seq ?_
        refine AWp.seqX [0, 1, 8, 9, 22] (tg := []) (H := [(21, .int .i64 (a0.length : Int))]) (st' := ⟨sp [(0, .slice 5 (a0.map encTVar)), (1, .str a1), (8, .slice 5 (x6.1.map encTVar)), (9, .int .i64 x6.2), (22, .bool (decide (x6.2 < (a0.length : Int))))] 0 40, [.cells 26 [.str r1.1.fName, .str r1.1.fValue, .bool r1.1.fSet, .bool r1.1.fExport, .bool r1.1.fReadonly]], [], [⟨.slot 8, 26, 5⟩]⟩) (ob := (True ∧ (True ∧ (((True ∧ True) ∧ ((.int .i64 ((a0.map encTVar).length : Int) : DV) = .int .i64 (a0.length : Int))) ∧ ((True ∧ (True ∧ (IntKind.i64 = IntKind.i64))) ∧ True))))) (by kernel_rfl) ⟨trivial, ⟨trivial, ⟨⟨⟨trivial, trivial⟩, (congrArg (fun n : Nat => DV.int .i64 n) (List.length_map _))⟩, ⟨⟨trivial, ⟨trivial, rfl⟩⟩, trivial⟩⟩⟩⟩ ?_
        refine AWp.cond (b := decide (x6.2 < (a0.length : Int))) (by kernel_rfl) trivial (fun c8 => ?_) (fun c8 => ?_)
        · have h := cond_t c8 h
          refine AWp.skip ?_
          obtain ⟨s9, e10, h⟩ := bind_some h
          refine AWp.seqMid ⟨sp [(0, .slice 5 (a0.map encTVar)), (1, .str a1), (8, .slice 5 (s9.map encTVar)), (9, .int .i64 x6.2)] 0 40, [.cells 26 [.str r1.1.fName, .str r1.1.fValue, .bool r1.1.fSet, .bool r1.1.fExport, .bool r1.1.fReadonly]], [], [⟨.slot 8, 26, 5⟩]⟩ ?_ ?_
          ·
            refine AWp.block ?_
            obtain ⟨⟨o11, o12⟩, h⟩ := req_some e10
            refine AWp.seqX [0, 1, 8, 9, 31] (tg := []) (H := [(27, .cptr [.str ((a0.getD (x6.2 : Int).toNat default).fName), .str ((a0.getD (x6.2 : Int).toNat default).fValue), .bool ((a0.getD (x6.2 : Int).toNat default).fSet), .bool ((a0.getD (x6.2 : Int).toNat default).fExport), .bool ((a0.getD (x6.2 : Int).toNat default).fReadonly)] 0)]) (st' := ⟨sp [(0, .slice 5 (a0.map encTVar)), (1, .str a1), (8, .slice 5 (x6.1.map encTVar)), (9, .int .i64 x6.2), (31, .bool (!(((a0.getD (x6.2 : Int).toNat default).fName) == a1)))] 0 40, [.cells 26 [.str r1.1.fName, .str r1.1.fValue, .bool r1.1.fSet, .bool r1.1.fExport, .bool r1.1.fReadonly]], [], [⟨.slot 8, 26, 5⟩]⟩) (ob := (True ∧ (True ∧ (((True ∧ (True ∧ (((0 : Int) ≤ x6.2) ∧ ((x6.2 < ((a0.map encTVar).length : Int)) ∧ (5 = 5))))) ∧ ((.cptr ((a0.map encTVar).getD (x6.2 : Int).toNat []) 0 : DV) = .cptr [.str ((a0.getD (x6.2 : Int).toNat default).fName), .str ((a0.getD (x6.2 : Int).toNat default).fValue), .bool ((a0.getD (x6.2 : Int).toNat default).fSet), .bool ((a0.getD (x6.2 : Int).toNat default).fExport), .bool ((a0.getD (x6.2 : Int).toNat default).fReadonly)] 0)) ∧ ((True ∧ (1 ≠ 0)) ∧ ((True ∧ (0 < 5)) ∧ (True ∧ ((True ∧ (True ∧ True)) ∧ True)))))))) (by kernel_rfl) ⟨trivial, ⟨trivial, ⟨⟨⟨trivial, ⟨trivial, ⟨o11, ⟨(lt_map o12), rfl⟩⟩⟩⟩, (congrArg (fun c => DV.cptr c 0) (getD_encI encTVar a0 (x6.2 : Int) o11 o12))⟩, ⟨⟨trivial, (by decide)⟩, ⟨⟨trivial, (by decide)⟩, ⟨trivial, ⟨⟨trivial, ⟨trivial, trivial⟩⟩, trivial⟩⟩⟩⟩⟩⟩⟩ ?_
            refine AWp.cond (b := !(((a0.getD (x6.2 : Int).toNat default).fName) == a1)) (by kernel_rfl) trivial (fun c13 => ?_) (fun c13 => ?_)
            · have h := cond_t c13 h
              obtain ⟨⟨o14, o15⟩, h⟩ := req_some h
              refine AWp.tailN [0, 1, 8, 9] [] (tg := [8, 32, 38]) (H := [(35, .cptr [.str ((a0.getD (x6.2 : Int).toNat default).fName), .str ((a0.getD (x6.2 : Int).toNat default).fValue), .bool ((a0.getD (x6.2 : Int).toNat default).fSet), .bool ((a0.getD (x6.2 : Int).toNat default).fExport), .bool ((a0.getD (x6.2 : Int).toNat default).fReadonly)] 0), (37, .slice 5 ([(a0.getD (x6.2 : Int).toNat default)].map encTVar)), (38, .slice 5 ((x6.1 ++ [(a0.getD (x6.2 : Int).toNat default)]).map encTVar))]) (st' := ⟨sp [(0, .slice 5 (a0.map encTVar)), (1, .str a1), (8, .slice 5 ((x6.1 ++ [(a0.getD (x6.2 : Int).toNat default)]).map encTVar)), (9, .int .i64 x6.2)] 0 40, [.cells 26 [.str r1.1.fName, .str r1.1.fValue, .bool r1.1.fSet, .bool r1.1.fExport, .bool r1.1.fReadonly]], [], [⟨.slot 8, 26, 5⟩]⟩) (ob := (True ∧ (True ∧ (True ∧ (((True ∧ (True ∧ (((0 : Int) ≤ x6.2) ∧ ((x6.2 < ((a0.map encTVar).length : Int)) ∧ (5 = 5))))) ∧ ((.cptr ((a0.map encTVar).getD (x6.2 : Int).toNat []) 0 : DV) = .cptr [.str ((a0.getD (x6.2 : Int).toNat default).fName), .str ((a0.getD (x6.2 : Int).toNat default).fValue), .bool ((a0.getD (x6.2 : Int).toNat default).fSet), .bool ((a0.getD (x6.2 : Int).toNat default).fExport), .bool ((a0.getD (x6.2 : Int).toNat default).fReadonly)] 0)) ∧ ((True ∧ (0 + 5 ≤ 5)) ∧ ((((true = true) ∧ (True ∧ ((true = true) ∧ True))) ∧ ((.slice 5 [[.str ((a0.getD (x6.2 : Int).toNat default).fName), .str ((a0.getD (x6.2 : Int).toNat default).fValue), .bool ((a0.getD (x6.2 : Int).toNat default).fSet), .bool ((a0.getD (x6.2 : Int).toNat default).fExport), .bool ((a0.getD (x6.2 : Int).toNat default).fReadonly)]] : DV) = .slice 5 ([(a0.getD (x6.2 : Int).toNat default)].map encTVar))) ∧ (((True ∧ (True ∧ ((true = true) ∧ ((((x6.1.map encTVar) : List (List DV)).length + (([(a0.getD (x6.2 : Int).toNat default)].map encTVar) : List (List DV)).length ≤ 9223372036854775807) ∧ ((((x6.1.map encTVar) : List (List DV)).length + (([(a0.getD (x6.2 : Int).toNat default)].map encTVar) : List (List DV)).length) * 40 ≤ 140737488355328))))) ∧ ((.slice 5 ((x6.1.map encTVar) ++ ([(a0.getD (x6.2 : Int).toNat default)].map encTVar)) : DV) = .slice 5 ((x6.1 ++ [(a0.getD (x6.2 : Int).toNat default)]).map encTVar))) ∧ (True ∧ True))))))))) (by kernel_rfl) ⟨trivial, ⟨trivial, ⟨trivial, ⟨⟨⟨trivial, ⟨trivial, ⟨o11, ⟨(lt_map o12), rfl⟩⟩⟩⟩, (congrArg (fun c => DV.cptr c 0) (getD_encI encTVar a0 (x6.2 : Int) o11 o12))⟩, ⟨⟨trivial, (by decide)⟩, ⟨⟨⟨rfl, ⟨trivial, ⟨rfl, trivial⟩⟩⟩, rfl⟩, ⟨⟨⟨trivial, ⟨trivial, ⟨rfl, ⟨(by simpa using o14), (by simpa using o15)⟩⟩⟩⟩, (congrArg (DV.slice 5) (List.map_append (f := encTVar) (l₁ := x6.1) (l₂ := [(a0.getD (x6.2 : Int).toNat default)])).symm)⟩, ⟨trivial, trivial⟩⟩⟩⟩⟩⟩⟩⟩ ?_
              obtain rfl := Option.some.inj h
              exact ⟨⟨.inr ⟨rfl, rfl⟩, ⟨.inr ⟨rfl, rfl⟩, ⟨.inl rfl, ⟨.inl rfl, ⟨.inl rfl, ⟨.inl rfl, ⟨.inl rfl, ⟨.inl rfl, ⟨.inr ⟨rfl, rfl⟩, ⟨.inr ⟨rfl, rfl⟩, ⟨.inl rfl, ⟨.inl rfl, ⟨.inl rfl, ⟨.inl rfl, ⟨.inl rfl, ⟨.inl rfl, ⟨.inl rfl, ⟨.inl rfl, ⟨.inl rfl, ⟨.inl rfl, ⟨.inl rfl, ⟨.inl rfl, ⟨.inl rfl, ⟨.inl rfl, ⟨.inl rfl, ⟨.inl rfl, ⟨.inl rfl, ⟨.inl rfl, ⟨.inl rfl, ⟨.inl rfl, ⟨.inl rfl, ⟨.inl rfl, ⟨.inl rfl, ⟨.inl rfl, ⟨.inl rfl, ⟨.inl rfl, ⟨.inl rfl, ⟨.inl rfl, ⟨.inl rfl, ⟨.inl rfl, trivial⟩⟩⟩⟩⟩⟩⟩⟩⟩⟩⟩⟩⟩⟩⟩⟩⟩⟩⟩⟩⟩⟩⟩⟩⟩⟩⟩⟩⟩⟩⟩⟩⟩⟩⟩⟩⟩⟩⟩⟩, rfl, rfl, rfl, ⟨_, (.cons_cons _ .slnil), (.refl _)⟩, rfl⟩
            · have h := cond_f c13 h
              refine AWp.skip ?_
              obtain rfl := Option.some.inj h
              exact ⟨⟨.inr ⟨rfl, rfl⟩, ⟨.inr ⟨rfl, rfl⟩, ⟨.inl rfl, ⟨.inl rfl, ⟨.inl rfl, ⟨.inl rfl, ⟨.inl rfl, ⟨.inl rfl, ⟨.inr ⟨rfl, rfl⟩, ⟨.inr ⟨rfl, rfl⟩, ⟨.inl rfl, ⟨.inl rfl, ⟨.inl rfl, ⟨.inl rfl, ⟨.inl rfl, ⟨.inl rfl, ⟨.inl rfl, ⟨.inl rfl, ⟨.inl rfl, ⟨.inl rfl, ⟨.inl rfl, ⟨.inl rfl, ⟨.inl rfl, ⟨.inl rfl, ⟨.inl rfl, ⟨.inl rfl, ⟨.inl rfl, ⟨.inl rfl, ⟨.inl rfl, ⟨.inl rfl, ⟨.inl rfl, ⟨.inl rfl, ⟨.inl rfl, ⟨.inl rfl, ⟨.inl rfl, ⟨.inl rfl, ⟨.inl rfl, ⟨.inl rfl, ⟨.inl rfl, ⟨.inl rfl, trivial⟩⟩⟩⟩⟩⟩⟩⟩⟩⟩⟩⟩⟩⟩⟩⟩⟩⟩⟩⟩⟩⟩⟩⟩⟩⟩⟩⟩⟩⟩⟩⟩⟩⟩⟩⟩⟩⟩⟩⟩, rfl, rfl, rfl, ⟨_, (.cons_cons _ .slnil), (.refl _)⟩, rfl⟩
          · skip
            refine AWp.tailN [0, 1, 8, 9] [] (tg := [9, 24]) (H := []) (st' := ⟨sp [(0, .slice 5 (a0.map encTVar)), (1, .str a1), (8, .slice 5 (s9.map encTVar)), (9, .int .i64 (IntKind.i64.wrap (x6.2 + 1)))] 0 40, [.cells 26 [.str r1.1.fName, .str r1.1.fValue, .bool r1.1.fSet, .bool r1.1.fExport, .bool r1.1.fReadonly]], [], [⟨.slot 8, 26, 5⟩]⟩) (ob := (True ∧ ((True ∧ (True ∧ (IntKind.i64 = IntKind.i64))) ∧ (True ∧ True)))) (by kernel_rfl) ⟨trivial, ⟨⟨trivial, ⟨trivial, rfl⟩⟩, ⟨trivial, trivial⟩⟩⟩ ?_
            exact ⟨⟨(n7, (s9, IntKind.i64.wrap (x6.2 + 1))), h⟩, Nat.lt_succ_self _, ⟨⟨.inr ⟨rfl, rfl⟩, ⟨.inr ⟨rfl, rfl⟩, ⟨.inl rfl, ⟨.inl rfl, ⟨.inl rfl, ⟨.inl rfl, ⟨.inl rfl, ⟨.inl rfl, ⟨.inr ⟨rfl, rfl⟩, ⟨.inr ⟨rfl, rfl⟩, ⟨.inl rfl, ⟨.inl rfl, ⟨.inl rfl, ⟨.inl rfl, ⟨.inl rfl, ⟨.inl rfl, ⟨.inl rfl, ⟨.inl rfl, ⟨.inl rfl, ⟨.inl rfl, ⟨.inl rfl, ⟨.inl rfl, ⟨.inl rfl, ⟨.inl rfl, ⟨.inl rfl, ⟨.inl rfl, ⟨.inl rfl, ⟨.inl rfl, ⟨.inl rfl, ⟨.inl rfl, ⟨.inl rfl, ⟨.inl rfl, ⟨.inl rfl, ⟨.inl rfl, ⟨.inl rfl, ⟨.inl rfl, ⟨.inl rfl, ⟨.inl rfl, ⟨.inl rfl, ⟨.inl rfl, trivial⟩⟩⟩⟩⟩⟩⟩⟩⟩⟩⟩⟩⟩⟩⟩⟩⟩⟩⟩⟩⟩⟩⟩⟩⟩⟩⟩⟩⟩⟩⟩⟩⟩⟩⟩⟩⟩⟩⟩⟩, rfl, rfl, rfl, ⟨_, (.cons_cons _ .slnil), (.refl _)⟩, rfl⟩⟩
        · have h := cond_f c8 h
          refine AWp.exit ?_
          obtain rfl := Option.some.inj h
          exact ⟨⟨.inl rfl, ⟨.inl rfl, ⟨.inl rfl, ⟨.inl rfl, ⟨.inl rfl, ⟨.inl rfl, ⟨.inl rfl, ⟨.inl rfl, ⟨.inr ⟨rfl, rfl⟩, ⟨.inl rfl, ⟨.inl rfl, ⟨.inl rfl, ⟨.inl rfl, ⟨.inl rfl, ⟨.inl rfl, ⟨.inl rfl, ⟨.inl rfl, ⟨.inl rfl, ⟨.inl rfl, ⟨.inl rfl, ⟨.inl rfl, ⟨.inl rfl, ⟨.inl rfl, ⟨.inl rfl, ⟨.inl rfl, ⟨.inl rfl, ⟨.inl rfl, ⟨.inl rfl, ⟨.inl rfl, ⟨.inl rfl, ⟨.inl rfl, ⟨.inl rfl, ⟨.inl rfl, ⟨.inl rfl, ⟨.inl rfl, ⟨.inl rfl, ⟨.inl rfl, ⟨.inl rfl, ⟨.inl rfl, ⟨.inl rfl, trivial⟩⟩⟩⟩⟩⟩⟩⟩⟩⟩⟩⟩⟩⟩⟩⟩⟩⟩⟩⟩⟩⟩⟩⟩⟩⟩⟩⟩⟩⟩⟩⟩⟩⟩⟩⟩⟩⟩⟩⟩, rfl, rfl, rfl, ⟨_, (.cons_cons _ .slnil), (.refl _)⟩, rfl⟩
    · skip
      refine AWp.seqX [4, 5] (tg := [4, 39]) (H := []) (st' := ⟨sp [(4, .slice 5 (s4.map encTVar)), (5, .int .i64 0)] 0 40, [.cells 26 [.str r1.1.fName, .str r1.1.fValue, .bool r1.1.fSet, .bool r1.1.fExport, .bool r1.1.fReadonly]], [], [⟨.slot 4, 26, 5⟩]⟩) (ob := (True ∧ (True ∧ (True ∧ True)))) (by kernel_rfl) ⟨trivial, ⟨trivial, ⟨trivial, trivial⟩⟩⟩ ?_
      refine AWp.ret ?_
      obtain rfl := Option.some.inj h
      exact ⟨[.slice 5 (s4.map encTVar), .int .i64 0], (True ∧ (True ∧ True)), by kernel_rfl, ⟨trivial, ⟨trivial, trivial⟩⟩, by kernel_rfl, ⟨rfl, rfl, rfl⟩⟩
def ref15_Mark (fuel : Nat) (a0 : List TVar) (a1 : List UInt8) (a2 : Bool) (a3 : Bool) : Option ((List TVar) × Int) :=
  (ref01_Name fuel a1).bind (fun r1 =>
    cond (!r1) (
      some (a0, 10)) (
      (ref15_Get fuel a0 a1).bind (fun r4 =>
        cond (cond (!r4.2) (decide (128 ≤ (a0.length : Int))) false) (
          some (a0, 4)) (
          (ref15_put fuel a0 (TVar.mk a1 r4.1.fValue r4.1.fSet (cond r4.1.fExport true a2) (cond r4.1.fReadonly true a3))).bind (fun r7 =>
            some (r7, 0))))))
theorem ref15_Mark_ok (fuel : Nat) (a0 : List TVar) (a1 : List UInt8) (a2 : Bool) (a3 : Bool) (r : (List TVar) × Int) (h : ref15_Mark fuel a0 a1 a2 a3 = some r) : ACalls Try.prog 21 [.slice 5 (a0.map encTVar), .str a1, .bool a2, .bool a3] [] (fun q => q = ⟨.tuple [.slice 5 (r.1.map encTVar), .int .i64 r.2], [], [], []⟩) := by
  unfold ref15_Mark at h
  refine ACalls.noown ?_
  refine ACalls.intro (fn := Try.f21) Try.func21 rfl ?_
  refine AWp.keep [0, 1, 2, 3] (st' := ⟨sp [(0, .slice 5 (a0.map encTVar)), (1, .str a1), (2, .bool a2), (3, .bool a3)] 0 47, [], [], []⟩) (by kernel_rfl) ?_
  refine AWp.seqX [0, 1, 2, 3] (tg := []) (H := []) (st' := ⟨sp [(0, .slice 5 (a0.map encTVar)), (1, .str a1), (2, .bool a2), (3, .bool a3)] 0 47, [], [], []⟩) (ob := (True ∧ (True ∧ True))) (by kernel_rfl) ⟨trivial, ⟨trivial, trivial⟩⟩ ?_
  refine AWp.seq ?_
  refine AWp.seqO ?_
  refine AOps.runK [0, 1, 2, 3, 12] 1 (tg := []) (H := []) (st' := ⟨sp [(0, .slice 5 (a0.map encTVar)), (1, .str a1), (2, .bool a2), (3, .bool a3), (12, .str a1)] 0 47, [], [], []⟩) (ob := (True ∧ True)) (by kernel_rfl) ⟨trivial, trivial⟩ ?_
  obtain ⟨r1, e2, h⟩ := bind_some h
  refine AOps.call1 (ds := [.str a1]) (d := .bool r1) (ow := []) (st' := ⟨sp [(0, .slice 5 (a0.map encTVar)), (1, .str a1), (2, .bool a2), (3, .bool a3), (12, .str a1), (13, .bool r1)] 0 47, [], [], []⟩) (by kernel_rfl) fk33 (by kernel_rfl) ⟨trivial, trivial⟩ (by kernel_rfl) (ref01_Name_ok fuel a1 r1 e2) (by kernel_rfl) ?_
  refine AOps.runK [0, 1, 2, 3, 14] 1 (tg := []) (H := []) (st' := ⟨sp [(0, .slice 5 (a0.map encTVar)), (1, .str a1), (2, .bool a2), (3, .bool a3), (14, .bool (!r1))] 0 47, [], [], []⟩) (ob := (True ∧ True)) (by kernel_rfl) ⟨trivial, trivial⟩ ?_
  refine AOps.done ?_
  refine AWp.cond (b := !r1) (by kernel_rfl) trivial (fun c3 => ?_) (fun c3 => ?_)
  · have h := cond_t c3 h
    refine AWp.seqX [8, 9] (tg := [8, 15]) (H := []) (st' := ⟨sp [(8, .slice 5 (a0.map encTVar)), (9, .int .i64 10)] 0 47, [], [], []⟩) (ob := (True ∧ (True ∧ (True ∧ True)))) (by kernel_rfl) ⟨trivial, ⟨trivial, ⟨trivial, trivial⟩⟩⟩ ?_
    refine AWp.ret ?_
    obtain rfl := Option.some.inj h
    exact ⟨[.slice 5 (a0.map encTVar), .int .i64 10], (True ∧ (True ∧ True)), by kernel_rfl, ⟨trivial, ⟨trivial, trivial⟩⟩, by kernel_rfl, ⟨rfl, rfl, rfl⟩⟩
  · have h := cond_f c3 h
    refine AWp.skip ?_
    refine AWp.seqO ?_
    refine AOps.runK [0, 1, 2, 3, 17, 18] 2 (tg := [11, 20, 21]) (H := []) (st' := ⟨sp [(0, .slice 5 (a0.map encTVar)), (1, .str a1), (2, .bool a2), (3, .bool a3), (17, .slice 5 (a0.map encTVar)), (18, .str a1)] 0 47, [], [], []⟩) (ob := (True ∧ (True ∧ True))) (by kernel_rfl) ⟨trivial, ⟨trivial, trivial⟩⟩ ?_
    obtain ⟨r4, e5, h⟩ := bind_some h
    refine AOps.call1 (ds := [.slice 5 (a0.map encTVar), .str a1]) (d := .tuple [.agg [.str r4.1.fName, .str r4.1.fValue, .bool r4.1.fSet, .bool r4.1.fExport, .bool r4.1.fReadonly], .bool r4.2]) (ow := []) (st' := ⟨sp [(0, .slice 5 (a0.map encTVar)), (1, .str a1), (2, .bool a2), (3, .bool a3), (17, .slice 5 (a0.map encTVar)), (18, .str a1), (19, .tuple [.agg [.str r4.1.fName, .str r4.1.fValue, .bool r4.1.fSet, .bool r4.1.fExport, .bool r4.1.fReadonly], .bool r4.2])] 0 47, [], [], []⟩) (by kernel_rfl) fk13 (by kernel_rfl) ⟨trivial, ⟨trivial, trivial⟩⟩ (by kernel_rfl) (ref15_Get_ok fuel a0 a1 r4 e5) (by kernel_rfl) ?_
    refine AOps.runK [0, 1, 2, 3, 10, 11] 6 (tg := [11, 20, 21]) (H := []) (st' := ⟨sp [(0, .slice 5 (a0.map encTVar)), (1, .str a1), (2, .bool a2), (3, .bool a3), (10, .ptr true 0 0), (11, .bool r4.2)] 0 47, [.cells 26 [.str r4.1.fName, .str r4.1.fValue, .bool r4.1.fSet, .bool r4.1.fExport, .bool r4.1.fReadonly]], [], []⟩) (ob := (True ∧ ((True ∧ (0 < 2)) ∧ ((True ∧ (1 < 2)) ∧ ((true = true) ∧ ((True ∧ (True ∧ ((true = true) ∧ (0 + 5 ≤ 5)))) ∧ (True ∧ True))))))) (by kernel_rfl) ⟨trivial, ⟨⟨trivial, (by decide)⟩, ⟨⟨trivial, (by decide)⟩, ⟨rfl, ⟨⟨trivial, ⟨trivial, ⟨rfl, (by decide)⟩⟩⟩, ⟨trivial, trivial⟩⟩⟩⟩⟩⟩ ?_
    refine AOps.done ?_
    refine AWp.seq ?_
    refine AWp.seqX [0, 1, 2, 3, 10, 28] (tg := []) (H := [(26, .int .i64 (a0.length : Int))]) (st' := ⟨sp [(0, .slice 5 (a0.map encTVar)), (1, .str a1), (2, .bool a2), (3, .bool a3), (10, .ptr true 0 0), (28, .bool (cond (!r4.2) (decide (128 ≤ (a0.length : Int))) false))] 0 47, [.cells 26 [.str r4.1.fName, .str r4.1.fValue, .bool r4.1.fSet, .bool r4.1.fExport, .bool r4.1.fReadonly]], [], []⟩) (ob := (True ∧ (True ∧ (True ∧ ((((!r4.2) == true) = true → True) ∧ ((((!r4.2) == true) = true → ((((((!r4.2) == true) = true) ∧ True) ∧ True) ∧ ((.int .i64 ((a0.map encTVar).length : Int) : DV) = .int .i64 (a0.length : Int)))) ∧ ((((!r4.2) == true) = true → (((((!r4.2) == true) = true) ∧ True) ∧ (True ∧ (IntKind.i64 = IntKind.i64)))) ∧ ((True ∧ (((!r4.2) = true → ((((!r4.2) == true) = true) ∧ True)) ∧ ((!r4.2) = false → True))) ∧ True)))))))) (by kernel_rfl) ⟨trivial, ⟨trivial, ⟨trivial, ⟨(fun hg0 => trivial), ⟨(fun hg0 => ⟨⟨⟨hg0, trivial⟩, trivial⟩, (congrArg (fun n : Nat => DV.int .i64 n) (List.length_map _))⟩), ⟨(fun hg0 => ⟨⟨hg0, trivial⟩, ⟨trivial, rfl⟩⟩), ⟨⟨trivial, ⟨(fun hg0 => ⟨(beqT hg0), trivial⟩), (fun hg0 => trivial)⟩⟩, trivial⟩⟩⟩⟩⟩⟩⟩ ?_
    refine AWp.cond (b := cond (!r4.2) (decide (128 ≤ (a0.length : Int))) false) (by kernel_rfl) trivial (fun c6 => ?_) (fun c6 => ?_)
    · have h := cond_t c6 h
      refine AWp.seqX [8, 9] (tg := [8, 29]) (H := []) (st' := ⟨sp [(8, .slice 5 (a0.map encTVar)), (9, .int .i64 4)] 0 47, [.cells 26 [.str r4.1.fName, .str r4.1.fValue, .bool r4.1.fSet, .bool r4.1.fExport, .bool r4.1.fReadonly]], [], []⟩) (ob := (True ∧ (True ∧ (True ∧ True)))) (by kernel_rfl) ⟨trivial, ⟨trivial, ⟨trivial, trivial⟩⟩⟩ ?_
      refine AWp.ret ?_
      obtain rfl := Option.some.inj h
      exact ⟨[.slice 5 (a0.map encTVar), .int .i64 4], (True ∧ (True ∧ True)), by kernel_rfl, ⟨trivial, ⟨trivial, trivial⟩⟩, by kernel_rfl, ⟨rfl, rfl, rfl⟩⟩
    · have h := cond_f c6 h
      refine AWp.skip ?_
      refine AWp.seqX [0, 2, 3, 10] (tg := [30]) (H := []) (st' := ⟨sp [(0, .slice 5 (a0.map encTVar)), (2, .bool a2), (3, .bool a3), (10, .ptr true 0 0)] 0 47, [.cells 26 [.str a1, .str r4.1.fValue, .bool r4.1.fSet, .bool r4.1.fExport, .bool r4.1.fReadonly]], [], []⟩) (ob := (True ∧ ((True ∧ (1 ≠ 0)) ∧ ((True ∧ (True ∧ ((true = true) ∧ (0 + 1 ≤ 5)))) ∧ True)))) (by kernel_rfl) ⟨trivial, ⟨⟨trivial, (by decide)⟩, ⟨⟨trivial, ⟨trivial, ⟨rfl, (by decide)⟩⟩⟩, trivial⟩⟩⟩ ?_
      refine AWp.seqX [0, 3, 10] (tg := [36]) (H := []) (st' := ⟨sp [(0, .slice 5 (a0.map encTVar)), (3, .bool a3), (10, .ptr true 0 0)] 0 47, [.cells 26 [.str a1, .str r4.1.fValue, .bool r4.1.fSet, .bool (cond r4.1.fExport true a2), .bool r4.1.fReadonly]], [], []⟩) (ob := ((True ∧ (1 ≠ 0)) ∧ ((True ∧ (3 < 5)) ∧ (True ∧ (((r4.1.fExport == false) = true → True) ∧ ((True ∧ ((r4.1.fExport = true → True) ∧ (r4.1.fExport = false → (((r4.1.fExport == false) = true) ∧ True)))) ∧ ((True ∧ (1 ≠ 0)) ∧ ((True ∧ (True ∧ ((true = true) ∧ (3 + 1 ≤ 5)))) ∧ True)))))))) (by kernel_rfl) ⟨⟨trivial, (by decide)⟩, ⟨⟨trivial, (by decide)⟩, ⟨trivial, ⟨(fun hg0 => trivial), ⟨⟨trivial, ⟨(fun hg0 => trivial), (fun hg0 => ⟨(beqF hg0), trivial⟩)⟩⟩, ⟨⟨trivial, (by decide)⟩, ⟨⟨trivial, ⟨trivial, ⟨rfl, (by decide)⟩⟩⟩, trivial⟩⟩⟩⟩⟩⟩⟩ ?_
      refine AWp.seqX [0, 10] (tg := [42]) (H := []) (st' := ⟨sp [(0, .slice 5 (a0.map encTVar)), (10, .ptr true 0 0)] 0 47, [.cells 26 [.str a1, .str r4.1.fValue, .bool r4.1.fSet, .bool (cond r4.1.fExport true a2), .bool (cond r4.1.fReadonly true a3)]], [], []⟩) (ob := ((True ∧ (1 ≠ 0)) ∧ ((True ∧ (4 < 5)) ∧ (True ∧ (((r4.1.fReadonly == false) = true → True) ∧ ((True ∧ ((r4.1.fReadonly = true → True) ∧ (r4.1.fReadonly = false → (((r4.1.fReadonly == false) = true) ∧ True)))) ∧ ((True ∧ (1 ≠ 0)) ∧ ((True ∧ (True ∧ ((true = true) ∧ (4 + 1 ≤ 5)))) ∧ True)))))))) (by kernel_rfl) ⟨⟨trivial, (by decide)⟩, ⟨⟨trivial, (by decide)⟩, ⟨trivial, ⟨(fun hg0 => trivial), ⟨⟨trivial, ⟨(fun hg0 => trivial), (fun hg0 => ⟨(beqF hg0), trivial⟩)⟩⟩, ⟨⟨trivial, (by decide)⟩, ⟨⟨trivial, ⟨trivial, ⟨rfl, (by decide)⟩⟩⟩, trivial⟩⟩⟩⟩⟩⟩⟩ ?_
      refine AWp.seqO ?_
      refine AOps.runK [44, 45] 2 (tg := [8, 46]) (H := []) (st' := ⟨sp [(44, .slice 5 (a0.map encTVar)), (45, .agg [.str a1, .str r4.1.fValue, .bool r4.1.fSet, .bool (cond r4.1.fExport true a2), .bool (cond r4.1.fReadonly true a3)])] 0 47, [.cells 26 [.str a1, .str r4.1.fValue, .bool r4.1.fSet, .bool (cond r4.1.fExport true a2), .bool (cond r4.1.fReadonly true a3)]], [], []⟩) (ob := (True ∧ ((True ∧ (0 + 5 ≤ 5)) ∧ True))) (by kernel_rfl) ⟨trivial, ⟨⟨trivial, (by decide)⟩, trivial⟩⟩ ?_
      obtain ⟨r7, e8, h⟩ := bind_some h
      refine AOps.call1 (ds := [.slice 5 (a0.map encTVar), .agg [.str a1, .str r4.1.fValue, .bool r4.1.fSet, .bool (cond r4.1.fExport true a2), .bool (cond r4.1.fReadonly true a3)]]) (d := .slice 5 (r7.map encTVar)) (ow := [⟨.slot 0, 26, 5⟩]) (st' := ⟨sp [(44, .slice 5 (a0.map encTVar)), (45, .agg [.str a1, .str r4.1.fValue, .bool r4.1.fSet, .bool (cond r4.1.fExport true a2), .bool (cond r4.1.fReadonly true a3)]), (46, .slice 5 (r7.map encTVar))] 0 47, [.cells 26 [.str a1, .str r4.1.fValue, .bool r4.1.fSet, .bool (cond r4.1.fExport true a2), .bool (cond r4.1.fReadonly true a3)]], [], [⟨.slot 46, 26, 5⟩]⟩) (by kernel_rfl) fk36 (by kernel_rfl) ⟨trivial, ⟨trivial, trivial⟩⟩ (by kernel_rfl) (ref15_put_ok fuel a0 (TVar.mk a1 r4.1.fValue r4.1.fSet (cond r4.1.fExport true a2) (cond r4.1.fReadonly true a3)) r7 e8) (by kernel_rfl) ?_
      refine AOps.runK [8, 9] 2 (tg := [8, 46]) (H := []) (st' := ⟨sp [(8, .slice 5 (r7.map encTVar)), (9, .int .i64 0)] 0 47, [.cells 26 [.str a1, .str r4.1.fValue, .bool r4.1.fSet, .bool (cond r4.1.fExport true a2), .bool (cond r4.1.fReadonly true a3)]], [], [⟨.slot 8, 26, 5⟩]⟩) (ob := (True ∧ (True ∧ True))) (by kernel_rfl) ⟨trivial, ⟨trivial, trivial⟩⟩ ?_
      refine AOps.done ?_
      refine AWp.ret ?_
      obtain rfl := Option.some.inj h
      exact ⟨[.slice 5 (r7.map encTVar), .int .i64 0], (True ∧ (True ∧ True)), by kernel_rfl, ⟨trivial, ⟨trivial, trivial⟩⟩, by kernel_rfl, ⟨rfl, rfl, rfl⟩⟩
def ref15_Divide_l0_b (a0 : List UInt8) (n6 : Nat) (recref15_Divide_l0 : Int → Option (J Unit ((List UInt8) × (List UInt8) × Bool))) (x5 : Int) : Option (J Unit ((List UInt8) × (List UInt8) × Bool)) :=
  cond (decide (x5 < (a0.length : Int))) (
    req (((0 : Int) ≤ x5) ∧ (x5 < (a0.length : Int))) (
      cond (((a0.getD (x5 : Int).toNat 0).toNat : Int) == 61) (
        req ((x5 ≤ (a0.length : Int)) ∧ ((0 : Int) ≤ (IntKind.i64.wrap (x5 + 1))) ∧ ((IntKind.i64.wrap (x5 + 1) : Int) ≤ (a0.length : Int)) ∧ ((a0.length : Int) ≤ (a0.length : Int))) (
          (ref01_Name n6 ((a0.take (x5 : Int).toNat).drop 0)).bind (fun r15 =>
            some (J.ret ((a0.take (x5 : Int).toNat).drop 0, (a0.take a0.length).drop (IntKind.i64.wrap (x5 + 1) : Int).toNat, r15))))) (
        recref15_Divide_l0 (IntKind.i64.wrap (x5 + 1))))) (
    some (J.go ()))
def ref15_Divide_l0 (a0 : List UInt8) : Nat → Int → Option (J Unit ((List UInt8) × (List UInt8) × Bool))
  | 0, _ => none
  | n + 1, x => ref15_Divide_l0_b a0 n (ref15_Divide_l0 a0 n) x
def ref15_Divide (fuel : Nat) (a0 : List UInt8) : Option ((List UInt8) × (List UInt8) × Bool) :=
  jn (ref15_Divide_l0 a0 fuel (0 : Int)) (fun s1 =>
    some ([], [], false))
theorem ref15_Divide_ok (fuel : Nat) (a0 : List UInt8) (r : (List UInt8) × (List UInt8) × Bool) (h : ref15_Divide fuel a0 = some r) : ACalls Try.prog 40 [.str a0] [] (fun q => q = ⟨.tuple [.str r.1, .str r.2.1, .bool r.2.2], [], [], []⟩) := by
  unfold ref15_Divide at h
  refine ACalls.noown ?_
  refine ACalls.intro (fn := Try.f40) Try.func40 rfl ?_
  refine AWp.keep [0] (st' := ⟨sp [(0, .str a0)] 0 27, [], [], []⟩) (by kernel_rfl) ?_
  refine AWp.seqX [0] (tg := []) (H := []) (st' := ⟨sp [(0, .str a0)] 0 27, [], [], []⟩) (ob := (True ∧ (True ∧ (True ∧ True)))) (by kernel_rfl) ⟨trivial, ⟨trivial, ⟨trivial, trivial⟩⟩⟩ ?_
  obtain ⟨j3, e2, k4⟩ := jn_some h
  refine AWp.seqSum (σ := Unit) (fun s1 => ⟨sp [] 0 27, [], [], []⟩) (fun s1 => j3 = .go s1) ?_ ?_
  ·
    refine AWp.seqX [0, 5] (tg := []) (H := []) (st' := ⟨sp [(0, .str a0), (5, .int .i64 0)] 0 27, [], [], []⟩) (ob := (True ∧ True)) (by kernel_rfl) ⟨trivial, trivial⟩ ?_
    refine AWp.block ?_
    refine AWp.loop (ι := {p : Nat × (Int) // ref15_Divide_l0 a0 p.1 p.2 = some _}) (fun p => ⟨sp [(0, .str a0), (5, .int .i64 p.1.2)] 0 27, [], [], []⟩) (fun p => p.1.1) ⟨(fuel, (0 : Int)), e2⟩ ⟨⟨.inr ⟨rfl, rfl⟩, ⟨.inl rfl, ⟨.inl rfl, ⟨.inl rfl, ⟨.inl rfl, ⟨.inr ⟨rfl, rfl⟩, ⟨.inl rfl, ⟨.inl rfl, ⟨.inl rfl, ⟨.inl rfl, ⟨.inl rfl, ⟨.inl rfl, ⟨.inl rfl, ⟨.inl rfl, ⟨.inl rfl, ⟨.inl rfl, ⟨.inl rfl, ⟨.inl rfl, ⟨.inl rfl, ⟨.inl rfl, ⟨.inl rfl, ⟨.inl rfl, ⟨.inl rfl, ⟨.inl rfl, ⟨.inl rfl, ⟨.inl rfl, ⟨.inl rfl, trivial⟩⟩⟩⟩⟩⟩⟩⟩⟩⟩⟩⟩⟩⟩⟩⟩⟩⟩⟩⟩⟩⟩⟩⟩⟩⟩⟩, rfl, rfl, rfl, ⟨_, .slnil, (.refl _)⟩, rfl⟩ ?_
    rintro ⟨⟨n6, x5⟩, h⟩
    cases n6 with
    | zero => cases h
    | succ n6 =>
      replace h : ref15_Divide_l0_b a0 n6 (ref15_Divide_l0 a0 n6) x5 = some _ := h
      unfold ref15_Divide_l0_b at h
      refine AWp.seq ?_
      refine AWp.seqX [0, 5, 9] (tg := []) (H := []) (st' := ⟨sp [(0, .str a0), (5, .int .i64 x5), (9, .bool (decide (x5 < (a0.length : Int))))] 0 27, [], [], []⟩) (ob := (True ∧ (True ∧ ((True ∧ True) ∧ ((True ∧ (True ∧ (IntKind.i64 = IntKind.i64))) ∧ True))))) (by kernel_rfl) ⟨trivial, ⟨trivial, ⟨⟨trivial, trivial⟩, ⟨⟨trivial, ⟨trivial, rfl⟩⟩, trivial⟩⟩⟩⟩ ?_
      refine AWp.cond (b := decide (x5 < (a0.length : Int))) (by kernel_rfl) trivial (fun c7 => ?_) (fun c7 => ?_)
      · have h := cond_t c7 h
        refine AWp.skip ?_
        refine AWp.seq ?_
        refine AWp.block ?_
        obtain ⟨⟨o8, o9⟩, h⟩ := req_some h
        refine AWp.seqX [0, 5, 15] (tg := []) (H := []) (st' := ⟨sp [(0, .str a0), (5, .int .i64 x5), (15, .bool (((a0.getD (x5 : Int).toNat 0).toNat : Int) == 61))] 0 27, [], [], []⟩) (ob := (True ∧ (True ∧ ((True ∧ (True ∧ (((0 : Int) ≤ x5) ∧ (x5 < (a0.length : Int))))) ∧ ((True ∧ (True ∧ (IntKind.u8 = IntKind.u8))) ∧ True))))) (by kernel_rfl) ⟨trivial, ⟨trivial, ⟨⟨trivial, ⟨trivial, ⟨o8, o9⟩⟩⟩, ⟨⟨trivial, ⟨trivial, rfl⟩⟩, trivial⟩⟩⟩⟩ ?_
        refine AWp.cond (b := ((a0.getD (x5 : Int).toNat 0).toNat : Int) == 61) (by kernel_rfl) trivial (fun c10 => ?_) (fun c10 => ?_)
        · have h := cond_t c10 h
          refine AWp.seqD mixed ?_
          obtain ⟨⟨o11, o12, o13, o14⟩, h⟩ := req_some h
          refine ADraw.quiet [18, 22, 25] 0 10 (tg := [2, 3, 4, 18, 22, 26]) (H := []) (st' := ⟨sp [(18, .str ((a0.take (x5 : Int).toNat).drop 0)), (22, .str ((a0.take a0.length).drop (IntKind.i64.wrap (x5 + 1) : Int).toNat)), (25, .str ((a0.take (x5 : Int).toNat).drop 0))] 0 27, [], [], []⟩) (ob := (True ∧ (True ∧ ((True ∧ (True ∧ (True ∧ (((0 : Int) ≤ 0) ∧ (((0 : Int) ≤ x5) ∧ (x5 ≤ (a0.length : Int))))))) ∧ (True ∧ (True ∧ ((True ∧ (True ∧ (IntKind.i64 = IntKind.i64))) ∧ ((True ∧ (True ∧ (True ∧ (((0 : Int) ≤ (IntKind.i64.wrap (x5 + 1))) ∧ (((IntKind.i64.wrap (x5 + 1) : Int) ≤ (a0.length : Int)) ∧ ((a0.length : Int) ≤ (a0.length : Int))))))) ∧ (True ∧ (True ∧ ((True ∧ (True ∧ (True ∧ (((0 : Int) ≤ 0) ∧ (((0 : Int) ≤ x5) ∧ (x5 ≤ (a0.length : Int))))))) ∧ True))))))))))) (by kernel_rfl) (by kernel_rfl) (by kernel_rfl) ⟨trivial, ⟨trivial, ⟨⟨trivial, ⟨trivial, ⟨trivial, ⟨(by decide), ⟨o8, o11⟩⟩⟩⟩⟩, ⟨trivial, ⟨trivial, ⟨⟨trivial, ⟨trivial, rfl⟩⟩, ⟨⟨trivial, ⟨trivial, ⟨trivial, ⟨o12, ⟨o13, o14⟩⟩⟩⟩⟩, ⟨trivial, ⟨trivial, ⟨⟨trivial, ⟨trivial, ⟨trivial, ⟨(by decide), ⟨o8, o11⟩⟩⟩⟩⟩, trivial⟩⟩⟩⟩⟩⟩⟩⟩⟩⟩ ?_
          refine ADraw.seg 10 4 (by kernel_rfl) (by kernel_rfl) ?_
          obtain ⟨r15, e16, h⟩ := bind_some h
          refine AOps.call1 (ds := [.str ((a0.take (x5 : Int).toNat).drop 0)]) (d := .bool r15) (ow := []) (st' := ⟨sp [(18, .str ((a0.take (x5 : Int).toNat).drop 0)), (22, .str ((a0.take a0.length).drop (IntKind.i64.wrap (x5 + 1) : Int).toNat)), (25, .str ((a0.take (x5 : Int).toNat).drop 0)), (26, .bool r15)] 0 27, [], [], []⟩) (by kernel_rfl) fk33 (by kernel_rfl) ⟨trivial, trivial⟩ (by kernel_rfl) (ref01_Name_ok n6 ((a0.take (x5 : Int).toNat).drop 0) r15 e16) (by kernel_rfl) ?_
          refine AOps.runK [2, 3, 4] 3 (tg := [2, 3, 4, 18, 22, 26]) (H := []) (st' := ⟨sp [(2, .str ((a0.take (x5 : Int).toNat).drop 0)), (3, .str ((a0.take a0.length).drop (IntKind.i64.wrap (x5 + 1) : Int).toNat)), (4, .bool r15)] 0 27, [], [], []⟩) (ob := (True ∧ (True ∧ (True ∧ True)))) (by kernel_rfl) ⟨trivial, ⟨trivial, ⟨trivial, trivial⟩⟩⟩ ?_
          refine AOps.drawn ?_
          refine ADraw.doneY 14 (by kernel_rfl) ?_
          refine AWp.ret ?_
          have h := jk_some h k4
          obtain rfl := Option.some.inj h
          exact ⟨[.str ((a0.take (x5 : Int).toNat).drop 0), .str ((a0.take a0.length).drop (IntKind.i64.wrap (x5 + 1) : Int).toNat), .bool r15], (True ∧ (True ∧ (True ∧ True))), by kernel_rfl, ⟨trivial, ⟨trivial, ⟨trivial, trivial⟩⟩⟩, by kernel_rfl, ⟨rfl, rfl, rfl⟩⟩
        · have h := cond_f c10 h
          refine AWp.skip ?_
          refine AWp.tailN [0, 5] [] (tg := [5, 11]) (H := []) (st' := ⟨sp [(0, .str a0), (5, .int .i64 (IntKind.i64.wrap (x5 + 1)))] 0 27, [], [], []⟩) (ob := (True ∧ ((True ∧ (True ∧ (IntKind.i64 = IntKind.i64))) ∧ (True ∧ True)))) (by kernel_rfl) ⟨trivial, ⟨⟨trivial, ⟨trivial, rfl⟩⟩, ⟨trivial, trivial⟩⟩⟩ ?_
          exact ⟨⟨(n6, IntKind.i64.wrap (x5 + 1)), h⟩, Nat.lt_succ_self _, ⟨⟨.inr ⟨rfl, rfl⟩, ⟨.inl rfl, ⟨.inl rfl, ⟨.inl rfl, ⟨.inl rfl, ⟨.inr ⟨rfl, rfl⟩, ⟨.inl rfl, ⟨.inl rfl, ⟨.inl rfl, ⟨.inl rfl, ⟨.inl rfl, ⟨.inl rfl, ⟨.inl rfl, ⟨.inl rfl, ⟨.inl rfl, ⟨.inl rfl, ⟨.inl rfl, ⟨.inl rfl, ⟨.inl rfl, ⟨.inl rfl, ⟨.inl rfl, ⟨.inl rfl, ⟨.inl rfl, ⟨.inl rfl, ⟨.inl rfl, ⟨.inl rfl, ⟨.inl rfl, trivial⟩⟩⟩⟩⟩⟩⟩⟩⟩⟩⟩⟩⟩⟩⟩⟩⟩⟩⟩⟩⟩⟩⟩⟩⟩⟩⟩, rfl, rfl, rfl, ⟨_, .slnil, (.refl _)⟩, rfl⟩⟩
      · have h := cond_f c7 h
        refine AWp.exit ?_
        obtain rfl := Option.some.inj h
        exact ⟨_, rfl, ⟨⟨.inl rfl, ⟨.inl rfl, ⟨.inl rfl, ⟨.inl rfl, ⟨.inl rfl, ⟨.inl rfl, ⟨.inl rfl, ⟨.inl rfl, ⟨.inl rfl, ⟨.inl rfl, ⟨.inl rfl, ⟨.inl rfl, ⟨.inl rfl, ⟨.inl rfl, ⟨.inl rfl, ⟨.inl rfl, ⟨.inl rfl, ⟨.inl rfl, ⟨.inl rfl, ⟨.inl rfl, ⟨.inl rfl, ⟨.inl rfl, ⟨.inl rfl, ⟨.inl rfl, ⟨.inl rfl, ⟨.inl rfl, ⟨.inl rfl, trivial⟩⟩⟩⟩⟩⟩⟩⟩⟩⟩⟩⟩⟩⟩⟩⟩⟩⟩⟩⟩⟩⟩⟩⟩⟩⟩⟩, rfl, rfl, rfl, ⟨_, .slnil, (.refl _)⟩, rfl⟩⟩
  · intro s1 s1h
    have h := jk_go s1h k4
    refine AWp.seqX [2, 3, 4] (tg := []) (H := []) (st' := ⟨sp [(2, .str []), (3, .str []), (4, .bool false)] 0 27, [], [], []⟩) (ob := (True ∧ (True ∧ (True ∧ True)))) (by kernel_rfl) ⟨trivial, ⟨trivial, ⟨trivial, trivial⟩⟩⟩ ?_
    refine AWp.ret ?_
    obtain rfl := Option.some.inj h
    exact ⟨[.str [], .str [], .bool false], (True ∧ (True ∧ (True ∧ True))), by kernel_rfl, ⟨trivial, ⟨trivial, ⟨trivial, trivial⟩⟩⟩, by kernel_rfl, ⟨rfl, rfl, rfl⟩⟩
def ref15_From_l0_b (a0 : List (List UInt8)) (n6 : Nat) (recref15_From_l0 : ((List TVar) × Int) → Option (J (List TVar) ((List TVar) × Int))) (x5 : (List TVar) × Int) : Option (J (List TVar) ((List TVar) × Int)) :=
  cond (decide (x5.2 < (a0.length : Int))) (
    jn (req (((0 : Int) ≤ x5.2) ∧ (x5.2 < (a0.length : Int))) (
        (ref15_Divide n6 (a0.getD (x5.2 : Int).toNat default)).bind (fun r14 =>
          cond (cond r14.2.2 (decide (4096 < (r14.2.1.length : Int))) false) (
            some (J.ret (J.ret ([], 3)))) (
            cond r14.2.2 (
              (ref15_put n6 x5.1 (TVar.mk r14.1 r14.2.1 true true false)).bind (fun r18 =>
                some (J.go r18))) (
              some (J.go x5.1)))))) (fun s8 =>
      recref15_From_l0 (s8, IntKind.i64.wrap (x5.2 + 1)))) (
    some (J.go x5.1))
def ref15_From_l0 (a0 : List (List UInt8)) : Nat → ((List TVar) × Int) → Option (J (List TVar) ((List TVar) × Int))
  | 0, _ => none
  | n + 1, x => ref15_From_l0_b a0 n (ref15_From_l0 a0 n) x
def ref15_From (fuel : Nat) (a0 : List (List UInt8)) : Option ((List TVar) × Int) :=
  jn (ref15_From_l0 a0 fuel ([], (0 : Int))) (fun s1 =>
    cond (decide (128 < (s1.length : Int))) (
      some ([], 4)) (
      some (s1, 0)))
theorem ref15_From_ok (fuel : Nat) (a0 : List (List UInt8)) (r : (List TVar) × Int) (h : ref15_From fuel a0 = some r) : ACalls Try.prog 24 [.slice 1 (a0.map ceS)] [] (fun q => q = ⟨.tuple [.slice 5 (r.1.map encTVar), .int .i64 r.2], [], [], [⟨.tup 0 0, 26, 5⟩]⟩) := by
  unfold ref15_From at h
  refine ACalls.intro (fn := Try.f24) Try.func24 rfl ?_
  refine AWp.keep [0] (st' := ⟨sp [(0, .slice 1 (a0.map ceS))] 0 40, [], [], []⟩) (by kernel_rfl) ?_
  refine AWp.seqX [0] (tg := []) (H := []) (st' := ⟨sp [(0, .slice 1 (a0.map ceS))] 0 40, [], [], []⟩) (ob := (True ∧ (True ∧ True))) (by kernel_rfl) ⟨trivial, ⟨trivial, trivial⟩⟩ ?_
  refine AWp.seqX [0, 4] (tg := []) (H := []) (st' := ⟨sp [(0, .slice 1 (a0.map ceS)), (4, .val (.slice none 0 0))] 0 40, [], [], []⟩) (ob := (True ∧ True)) (by kernel_rfl) ⟨trivial, trivial⟩ ?_
  refine AWp.nilowns [(4, 26, 5)] (st' := ⟨sp [(0, .slice 1 (a0.map ceS)), (4, .slice 5 [])] 0 40, [], [], [⟨.slot 4, 26, 5⟩]⟩) (by kernel_rfl) (by kernel_rfl) ?_
  obtain ⟨j3, e2, k4⟩ := jn_some h
  refine AWp.seqSum (σ := List TVar) (fun s1 => ⟨sp [(4, .slice 5 (s1.map encTVar))] 0 40, [], [], [⟨.slot 4, 26, 5⟩]⟩) (fun s1 => j3 = .go s1) ?_ ?_
  ·
    refine AWp.seqX [0, 4, 5] (tg := []) (H := []) (st' := ⟨sp [(0, .slice 1 (a0.map ceS)), (4, .slice 5 []), (5, .int .i64 0)] 0 40, [], [], [⟨.slot 4, 26, 5⟩]⟩) (ob := (True ∧ True)) (by kernel_rfl) ⟨trivial, trivial⟩ ?_
    refine AWp.block ?_
    refine AWp.loop (ι := {p : Nat × ((List TVar) × Int) // ref15_From_l0 a0 p.1 p.2 = some _}) (fun p => ⟨sp [(0, .slice 1 (a0.map ceS)), (4, .slice 5 (p.1.2.1.map encTVar)), (5, .int .i64 p.1.2.2)] 0 40, [], [], [⟨.slot 4, 26, 5⟩]⟩) (fun p => p.1.1) ⟨(fuel, ([], (0 : Int))), e2⟩ ⟨⟨.inr ⟨rfl, rfl⟩, ⟨.inl rfl, ⟨.inl rfl, ⟨.inl rfl, ⟨.inr ⟨rfl, rfl⟩, ⟨.inr ⟨rfl, rfl⟩, ⟨.inl rfl, ⟨.inl rfl, ⟨.inl rfl, ⟨.inl rfl, ⟨.inl rfl, ⟨.inl rfl, ⟨.inl rfl, ⟨.inl rfl, ⟨.inl rfl, ⟨.inl rfl, ⟨.inl rfl, ⟨.inl rfl, ⟨.inl rfl, ⟨.inl rfl, ⟨.inl rfl, ⟨.inl rfl, ⟨.inl rfl, ⟨.inl rfl, ⟨.inl rfl, ⟨.inl rfl, ⟨.inl rfl, ⟨.inl rfl, ⟨.inl rfl, ⟨.inl rfl, ⟨.inl rfl, ⟨.inl rfl, ⟨.inl rfl, ⟨.inl rfl, ⟨.inl rfl, ⟨.inl rfl, ⟨.inl rfl, ⟨.inl rfl, ⟨.inl rfl, ⟨.inl rfl, trivial⟩⟩⟩⟩⟩⟩⟩⟩⟩⟩⟩⟩⟩⟩⟩⟩⟩⟩⟩⟩⟩⟩⟩⟩⟩⟩⟩⟩⟩⟩⟩⟩⟩⟩⟩⟩⟩⟩⟩⟩, rfl, rfl, rfl, ⟨_, (.cons_cons _ .slnil), (.refl _)⟩, rfl⟩ ?_
    rintro ⟨⟨n6, x5⟩, h⟩
    cases n6 with
    | zero => cases h
    | succ n6 =>
      replace h : ref15_From_l0_b a0 n6 (ref15_From_l0 a0 n6) x5 = some _ := h
      unfold ref15_From_l0_b at h
      refine AWp.seq ?_
      refine AWp.seqX [0, 4, 5, 12] (tg := []) (H := [(11, .int .i64 (a0.length : Int))]) (st' := ⟨sp [(0, .slice 1 (a0.map ceS)), (4, .slice 5 (x5.1.map encTVar)), (5, .int .i64 x5.2), (12, .bool (decide (x5.2 < (a0.length : Int))))] 0 40, [], [], [⟨.slot 4, 26, 5⟩]⟩) (ob := (True ∧ (True ∧ (((True ∧ True) ∧ ((.int .i64 ((a0.map ceS).length : Int) : DV) = .int .i64 (a0.length : Int))) ∧ ((True ∧ (True ∧ (IntKind.i64 = IntKind.i64))) ∧ True))))) (by kernel_rfl) ⟨trivial, ⟨trivial, ⟨⟨⟨trivial, trivial⟩, (congrArg (fun n : Nat => DV.int .i64 n) (List.length_map _))⟩, ⟨⟨trivial, ⟨trivial, rfl⟩⟩, trivial⟩⟩⟩⟩ ?_
      refine AWp.cond (b := decide (x5.2 < (a0.length : Int))) (by kernel_rfl) trivial (fun c7 => ?_) (fun c7 => ?_)
      · have h := cond_t c7 h
        refine AWp.skip ?_
        obtain ⟨j10, e9, k11⟩ := jn_some h
        refine AWp.seqSum (σ := List TVar) (fun s8 => ⟨sp [(0, .slice 1 (a0.map ceS)), (4, .slice 5 (s8.map encTVar)), (5, .int .i64 x5.2)] 0 40, [], [], [⟨.slot 4, 26, 5⟩]⟩) (fun s8 => j10 = .go s8) ?_ ?_
        ·
          refine AWp.block ?_
          refine AWp.seqO ?_
          obtain ⟨⟨o12, o13⟩, h⟩ := req_some e9
          refine AOps.runK [0, 4, 5, 19] 4 (tg := [6, 7, 8, 21, 22, 23]) (H := [(18, .cptr [.str (a0.getD (x5.2 : Int).toNat default)] 0)]) (st' := ⟨sp [(0, .slice 1 (a0.map ceS)), (4, .slice 5 (x5.1.map encTVar)), (5, .int .i64 x5.2), (19, .str (a0.getD (x5.2 : Int).toNat default))] 0 40, [], [], [⟨.slot 4, 26, 5⟩]⟩) (ob := (True ∧ (True ∧ (((True ∧ (True ∧ (((0 : Int) ≤ x5.2) ∧ ((x5.2 < ((a0.map ceS).length : Int)) ∧ (1 = 1))))) ∧ ((.cptr ((a0.map ceS).getD (x5.2 : Int).toNat []) 0 : DV) = .cptr [.str (a0.getD (x5.2 : Int).toNat default)] 0)) ∧ ((True ∧ (0 < 1)) ∧ True))))) (by kernel_rfl) ⟨trivial, ⟨trivial, ⟨⟨⟨trivial, ⟨trivial, ⟨o12, ⟨(lt_map o13), rfl⟩⟩⟩⟩, (congrArg (fun c => DV.cptr c 0) (getD_encI ceS a0 (x5.2 : Int) o12 o13))⟩, ⟨⟨trivial, (by decide)⟩, trivial⟩⟩⟩⟩ ?_
          obtain ⟨r14, e15, h⟩ := bind_some h
          refine AOps.call1 (ds := [.str (a0.getD (x5.2 : Int).toNat default)]) (d := .tuple [.str r14.1, .str r14.2.1, .bool r14.2.2]) (ow := []) (st' := ⟨sp [(0, .slice 1 (a0.map ceS)), (4, .slice 5 (x5.1.map encTVar)), (5, .int .i64 x5.2), (19, .str (a0.getD (x5.2 : Int).toNat default)), (20, .tuple [.str r14.1, .str r14.2.1, .bool r14.2.2])] 0 40, [], [], [⟨.slot 4, 26, 5⟩]⟩) (by kernel_rfl) fk40 (by kernel_rfl) ⟨trivial, trivial⟩ (by kernel_rfl) (ref15_Divide_ok n6 (a0.getD (x5.2 : Int).toNat default) r14 e15) (by kernel_rfl) ?_
          refine AOps.runK [0, 4, 5, 6, 7, 8] 7 (tg := [6, 7, 8, 21, 22, 23]) (H := []) (st' := ⟨sp [(0, .slice 1 (a0.map ceS)), (4, .slice 5 (x5.1.map encTVar)), (5, .int .i64 x5.2), (6, .str r14.1), (7, .str r14.2.1), (8, .bool r14.2.2)] 0 40, [], [], [⟨.slot 4, 26, 5⟩]⟩) (ob := (True ∧ ((True ∧ (0 < 3)) ∧ ((True ∧ (1 < 3)) ∧ ((True ∧ (2 < 3)) ∧ (True ∧ (True ∧ (True ∧ True)))))))) (by kernel_rfl) ⟨trivial, ⟨⟨trivial, (by decide)⟩, ⟨⟨trivial, (by decide)⟩, ⟨⟨trivial, (by decide)⟩, ⟨trivial, ⟨trivial, ⟨trivial, trivial⟩⟩⟩⟩⟩⟩⟩ ?_
          refine AOps.done ?_
          refine AWp.seq ?_
          refine AWp.seqX [0, 4, 5, 6, 7, 8, 29] (tg := []) (H := []) (st' := ⟨sp [(0, .slice 1 (a0.map ceS)), (4, .slice 5 (x5.1.map encTVar)), (5, .int .i64 x5.2), (6, .str r14.1), (7, .str r14.2.1), (8, .bool r14.2.2), (29, .bool (cond r14.2.2 (decide (4096 < (r14.2.1.length : Int))) false))] 0 40, [], [], [⟨.slot 4, 26, 5⟩]⟩) (ob := (True ∧ (True ∧ (((r14.2.2 == true) = true → True) ∧ (((r14.2.2 == true) = true → ((((r14.2.2 == true) = true) ∧ True) ∧ True)) ∧ (((r14.2.2 == true) = true → ((((r14.2.2 == true) = true) ∧ True) ∧ (True ∧ (IntKind.i64 = IntKind.i64)))) ∧ ((True ∧ ((r14.2.2 = true → (((r14.2.2 == true) = true) ∧ True)) ∧ (r14.2.2 = false → True))) ∧ True))))))) (by kernel_rfl) ⟨trivial, ⟨trivial, ⟨(fun hg0 => trivial), ⟨(fun hg0 => ⟨⟨hg0, trivial⟩, trivial⟩), ⟨(fun hg0 => ⟨⟨hg0, trivial⟩, ⟨trivial, rfl⟩⟩), ⟨⟨trivial, ⟨(fun hg0 => ⟨(beqT hg0), trivial⟩), (fun hg0 => trivial)⟩⟩, trivial⟩⟩⟩⟩⟩⟩ ?_
          refine AWp.cond (b := cond r14.2.2 (decide (4096 < (r14.2.1.length : Int))) false) (by kernel_rfl) trivial (fun c16 => ?_) (fun c16 => ?_)
          · have h := cond_t c16 h
            refine AWp.seqX [2, 3] (tg := []) (H := []) (st' := ⟨sp [(2, .val (.slice none 0 0)), (3, .int .i64 3)] 0 40, [], [], []⟩) (ob := (True ∧ (True ∧ True))) (by kernel_rfl) ⟨trivial, ⟨trivial, trivial⟩⟩ ?_
            refine AWp.nilowns [(2, 26, 5)] (st' := ⟨sp [(2, .slice 5 []), (3, .int .i64 3)] 0 40, [], [], [⟨.slot 2, 26, 5⟩]⟩) (by kernel_rfl) (by kernel_rfl) ?_
            refine AWp.ret ?_
            have h := jk_some h k11
            have h := jk_some h k4
            obtain rfl := Option.some.inj h
            exact ⟨[.slice 5 [], .int .i64 3], (True ∧ (True ∧ True)), by kernel_rfl, ⟨trivial, ⟨trivial, trivial⟩⟩, by kernel_rfl, ACalls.eq_of rfl rfl rfl rfl⟩
          · have h := cond_f c16 h
            refine AWp.skip ?_
            refine AWp.seqX [0, 4, 5, 6, 7, 30] (tg := []) (H := []) (st' := ⟨sp [(0, .slice 1 (a0.map ceS)), (4, .slice 5 (x5.1.map encTVar)), (5, .int .i64 x5.2), (6, .str r14.1), (7, .str r14.2.1), (30, .bool r14.2.2)] 0 40, [], [], [⟨.slot 4, 26, 5⟩]⟩) (ob := (True ∧ True)) (by kernel_rfl) ⟨trivial, trivial⟩ ?_
            refine AWp.cond (b := r14.2.2) (by kernel_rfl) trivial (fun c17 => ?_) (fun c17 => ?_)
            · have h := cond_t c17 h
              refine AWp.region ?_
              refine AOps.runK [0, 5, 31, 34] 4 (tg := [4, 35]) (H := []) (st' := ⟨sp [(0, .slice 1 (a0.map ceS)), (5, .int .i64 x5.2), (31, .slice 5 (x5.1.map encTVar)), (34, .agg [.str r14.1, .str r14.2.1, .bool true, .bool true, .bool false])] 0 40, [], [], []⟩) (ob := (True ∧ (True ∧ (True ∧ ((True ∧ ((true = true) ∧ (True ∧ ((true = true) ∧ (True ∧ ((true = true) ∧ (True ∧ ((true = true) ∧ (true = true))))))))) ∧ True))))) (by kernel_rfl) ⟨trivial, ⟨trivial, ⟨trivial, ⟨⟨trivial, ⟨rfl, ⟨trivial, ⟨rfl, ⟨trivial, ⟨rfl, ⟨trivial, ⟨rfl, rfl⟩⟩⟩⟩⟩⟩⟩⟩, trivial⟩⟩⟩⟩ ?_
              obtain ⟨r18, e19, h⟩ := bind_some h
              refine AOps.call1 (ds := [.slice 5 (x5.1.map encTVar), .agg [.str r14.1, .str r14.2.1, .bool true, .bool true, .bool false]]) (d := .slice 5 (r18.map encTVar)) (ow := [⟨.slot 0, 26, 5⟩]) (st' := ⟨sp [(0, .slice 1 (a0.map ceS)), (5, .int .i64 x5.2), (31, .slice 5 (x5.1.map encTVar)), (34, .agg [.str r14.1, .str r14.2.1, .bool true, .bool true, .bool false]), (35, .slice 5 (r18.map encTVar))] 0 40, [], [], [⟨.slot 35, 26, 5⟩]⟩) (by kernel_rfl) fk36 (by kernel_rfl) ⟨trivial, ⟨trivial, trivial⟩⟩ (by kernel_rfl) (ref15_put_ok n6 x5.1 (TVar.mk r14.1 r14.2.1 true true false) r18 e19) (by kernel_rfl) ?_
              refine AOps.runK [0, 4, 5] 1 (tg := [4, 35]) (H := []) (st' := ⟨sp [(0, .slice 1 (a0.map ceS)), (4, .slice 5 (r18.map encTVar)), (5, .int .i64 x5.2)] 0 40, [], [], [⟨.slot 4, 26, 5⟩]⟩) (ob := (True ∧ True)) (by kernel_rfl) ⟨trivial, trivial⟩ ?_
              refine AOps.nil ?_
              obtain rfl := Option.some.inj h
              exact ⟨_, rfl, ⟨⟨.inr ⟨rfl, rfl⟩, ⟨.inl rfl, ⟨.inl rfl, ⟨.inl rfl, ⟨.inr ⟨rfl, rfl⟩, ⟨.inr ⟨rfl, rfl⟩, ⟨.inl rfl, ⟨.inl rfl, ⟨.inl rfl, ⟨.inl rfl, ⟨.inl rfl, ⟨.inl rfl, ⟨.inl rfl, ⟨.inl rfl, ⟨.inl rfl, ⟨.inl rfl, ⟨.inl rfl, ⟨.inl rfl, ⟨.inl rfl, ⟨.inl rfl, ⟨.inl rfl, ⟨.inl rfl, ⟨.inl rfl, ⟨.inl rfl, ⟨.inl rfl, ⟨.inl rfl, ⟨.inl rfl, ⟨.inl rfl, ⟨.inl rfl, ⟨.inl rfl, ⟨.inl rfl, ⟨.inl rfl, ⟨.inl rfl, ⟨.inl rfl, ⟨.inl rfl, ⟨.inl rfl, ⟨.inl rfl, ⟨.inl rfl, ⟨.inl rfl, ⟨.inl rfl, trivial⟩⟩⟩⟩⟩⟩⟩⟩⟩⟩⟩⟩⟩⟩⟩⟩⟩⟩⟩⟩⟩⟩⟩⟩⟩⟩⟩⟩⟩⟩⟩⟩⟩⟩⟩⟩⟩⟩⟩⟩, rfl, rfl, rfl, ⟨_, (.cons_cons _ .slnil), (.refl _)⟩, rfl⟩⟩
            · have h := cond_f c17 h
              refine AWp.skip ?_
              obtain rfl := Option.some.inj h
              exact ⟨_, rfl, ⟨⟨.inr ⟨rfl, rfl⟩, ⟨.inl rfl, ⟨.inl rfl, ⟨.inl rfl, ⟨.inr ⟨rfl, rfl⟩, ⟨.inr ⟨rfl, rfl⟩, ⟨.inl rfl, ⟨.inl rfl, ⟨.inl rfl, ⟨.inl rfl, ⟨.inl rfl, ⟨.inl rfl, ⟨.inl rfl, ⟨.inl rfl, ⟨.inl rfl, ⟨.inl rfl, ⟨.inl rfl, ⟨.inl rfl, ⟨.inl rfl, ⟨.inl rfl, ⟨.inl rfl, ⟨.inl rfl, ⟨.inl rfl, ⟨.inl rfl, ⟨.inl rfl, ⟨.inl rfl, ⟨.inl rfl, ⟨.inl rfl, ⟨.inl rfl, ⟨.inl rfl, ⟨.inl rfl, ⟨.inl rfl, ⟨.inl rfl, ⟨.inl rfl, ⟨.inl rfl, ⟨.inl rfl, ⟨.inl rfl, ⟨.inl rfl, ⟨.inl rfl, ⟨.inl rfl, trivial⟩⟩⟩⟩⟩⟩⟩⟩⟩⟩⟩⟩⟩⟩⟩⟩⟩⟩⟩⟩⟩⟩⟩⟩⟩⟩⟩⟩⟩⟩⟩⟩⟩⟩⟩⟩⟩⟩⟩⟩, rfl, rfl, rfl, ⟨_, (.cons_cons _ .slnil), (.refl _)⟩, rfl⟩⟩
        · intro s8 s8h
          have h := jk_go s8h k11
          refine AWp.tailN [0, 4, 5] [] (tg := [5, 14]) (H := []) (st' := ⟨sp [(0, .slice 1 (a0.map ceS)), (4, .slice 5 (s8.map encTVar)), (5, .int .i64 (IntKind.i64.wrap (x5.2 + 1)))] 0 40, [], [], [⟨.slot 4, 26, 5⟩]⟩) (ob := (True ∧ ((True ∧ (True ∧ (IntKind.i64 = IntKind.i64))) ∧ (True ∧ True)))) (by kernel_rfl) ⟨trivial, ⟨⟨trivial, ⟨trivial, rfl⟩⟩, ⟨trivial, trivial⟩⟩⟩ ?_
          exact ⟨⟨(n6, (s8, IntKind.i64.wrap (x5.2 + 1))), h⟩, Nat.lt_succ_self _, ⟨⟨.inr ⟨rfl, rfl⟩, ⟨.inl rfl, ⟨.inl rfl, ⟨.inl rfl, ⟨.inr ⟨rfl, rfl⟩, ⟨.inr ⟨rfl, rfl⟩, ⟨.inl rfl, ⟨.inl rfl, ⟨.inl rfl, ⟨.inl rfl, ⟨.inl rfl, ⟨.inl rfl, ⟨.inl rfl, ⟨.inl rfl, ⟨.inl rfl, ⟨.inl rfl, ⟨.inl rfl, ⟨.inl rfl, ⟨.inl rfl, ⟨.inl rfl, ⟨.inl rfl, ⟨.inl rfl, ⟨.inl rfl, ⟨.inl rfl, ⟨.inl rfl, ⟨.inl rfl, ⟨.inl rfl, ⟨.inl rfl, ⟨.inl rfl, ⟨.inl rfl, ⟨.inl rfl, ⟨.inl rfl, ⟨.inl rfl, ⟨.inl rfl, ⟨.inl rfl, ⟨.inl rfl, ⟨.inl rfl, ⟨.inl rfl, ⟨.inl rfl, ⟨.inl rfl, trivial⟩⟩⟩⟩⟩⟩⟩⟩⟩⟩⟩⟩⟩⟩⟩⟩⟩⟩⟩⟩⟩⟩⟩⟩⟩⟩⟩⟩⟩⟩⟩⟩⟩⟩⟩⟩⟩⟩⟩⟩, rfl, rfl, rfl, ⟨_, (.cons_cons _ .slnil), (.refl _)⟩, rfl⟩⟩
      · have h := cond_f c7 h
        refine AWp.exit ?_
        obtain rfl := Option.some.inj h
        exact ⟨_, rfl, ⟨⟨.inl rfl, ⟨.inl rfl, ⟨.inl rfl, ⟨.inl rfl, ⟨.inr ⟨rfl, rfl⟩, ⟨.inl rfl, ⟨.inl rfl, ⟨.inl rfl, ⟨.inl rfl, ⟨.inl rfl, ⟨.inl rfl, ⟨.inl rfl, ⟨.inl rfl, ⟨.inl rfl, ⟨.inl rfl, ⟨.inl rfl, ⟨.inl rfl, ⟨.inl rfl, ⟨.inl rfl, ⟨.inl rfl, ⟨.inl rfl, ⟨.inl rfl, ⟨.inl rfl, ⟨.inl rfl, ⟨.inl rfl, ⟨.inl rfl, ⟨.inl rfl, ⟨.inl rfl, ⟨.inl rfl, ⟨.inl rfl, ⟨.inl rfl, ⟨.inl rfl, ⟨.inl rfl, ⟨.inl rfl, ⟨.inl rfl, ⟨.inl rfl, ⟨.inl rfl, ⟨.inl rfl, ⟨.inl rfl, ⟨.inl rfl, trivial⟩⟩⟩⟩⟩⟩⟩⟩⟩⟩⟩⟩⟩⟩⟩⟩⟩⟩⟩⟩⟩⟩⟩⟩⟩⟩⟩⟩⟩⟩⟩⟩⟩⟩⟩⟩⟩⟩⟩⟩, rfl, rfl, rfl, ⟨_, (.cons_cons _ .slnil), (.refl _)⟩, rfl⟩⟩
  · intro s1 s1h
    have h := jk_go s1h k4
    refine AWp.seq ?_
    refine AWp.seqX [4, 38] (tg := []) (H := [(37, .int .i64 (s1.length : Int))]) (st' := ⟨sp [(4, .slice 5 (s1.map encTVar)), (38, .bool (decide (128 < (s1.length : Int))))] 0 40, [], [], [⟨.slot 4, 26, 5⟩]⟩) (ob := (True ∧ (((True ∧ True) ∧ ((.int .i64 ((s1.map encTVar).length : Int) : DV) = .int .i64 (s1.length : Int))) ∧ ((True ∧ (True ∧ (IntKind.i64 = IntKind.i64))) ∧ True)))) (by kernel_rfl) ⟨trivial, ⟨⟨⟨trivial, trivial⟩, (congrArg (fun n : Nat => DV.int .i64 n) (List.length_map _))⟩, ⟨⟨trivial, ⟨trivial, rfl⟩⟩, trivial⟩⟩⟩ ?_
    refine AWp.cond (b := decide (128 < (s1.length : Int))) (by kernel_rfl) trivial (fun c7 => ?_) (fun c7 => ?_)
    · have h := cond_t c7 h
      refine AWp.seqX [2, 3] (tg := []) (H := []) (st' := ⟨sp [(2, .val (.slice none 0 0)), (3, .int .i64 4)] 0 40, [], [], []⟩) (ob := (True ∧ (True ∧ True))) (by kernel_rfl) ⟨trivial, ⟨trivial, trivial⟩⟩ ?_
      refine AWp.nilowns [(2, 26, 5)] (st' := ⟨sp [(2, .slice 5 []), (3, .int .i64 4)] 0 40, [], [], [⟨.slot 2, 26, 5⟩]⟩) (by kernel_rfl) (by kernel_rfl) ?_
      refine AWp.ret ?_
      obtain rfl := Option.some.inj h
      exact ⟨[.slice 5 [], .int .i64 4], (True ∧ (True ∧ True)), by kernel_rfl, ⟨trivial, ⟨trivial, trivial⟩⟩, by kernel_rfl, ACalls.eq_of rfl rfl rfl rfl⟩
    · have h := cond_f c7 h
      refine AWp.skip ?_
      refine AWp.seqX [2, 3] (tg := [2, 39]) (H := []) (st' := ⟨sp [(2, .slice 5 (s1.map encTVar)), (3, .int .i64 0)] 0 40, [], [], [⟨.slot 2, 26, 5⟩]⟩) (ob := (True ∧ (True ∧ (True ∧ True)))) (by kernel_rfl) ⟨trivial, ⟨trivial, ⟨trivial, trivial⟩⟩⟩ ?_
      refine AWp.ret ?_
      obtain rfl := Option.some.inj h
      exact ⟨[.slice 5 (s1.map encTVar), .int .i64 0], (True ∧ (True ∧ True)), by kernel_rfl, ⟨trivial, ⟨trivial, trivial⟩⟩, by kernel_rfl, ACalls.eq_of rfl rfl rfl rfl⟩
end Go.Proofs.Ytboofbgcdhjhnaa
