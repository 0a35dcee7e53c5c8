/- Models of the code, and that the code computes them: printed by program (alm.py). -/
import Derived.Test.YtboofbgcdhjhnaaExt
namespace Go.Proofs.Ytboofbgcdhjhnaa
open Go.AL
set_option linter.unusedVariables false
structure TVar where
  fName : List UInt8
  fValue : List UInt8
  fSet : Bool
  fExport : Bool
  fReadonly : Bool
  deriving Inhabited, DecidableEq
def encTVar (v : TVar) : List DV := [.str v.fName, .str v.fValue, .bool v.fSet, .bool v.fExport, .bool v.fReadonly]
def ref01_Digit (a0 : Int) : Bool :=
  cond (decide (48 ≤ a0)) (decide (a0 ≤ 57)) false
theorem ref01_Digit_ok (a0 : Int) (r : Bool) (h : ref01_Digit a0 = r) : ACalls Try.prog 43 [.int .u8 a0] [] (fun q => q = ⟨.bool r, [], [], []⟩) := by
  unfold ref01_Digit at h
  refine ACalls.noown ?_
  refine ACalls.intro (fn := Try.f43) Try.func43 rfl ?_
  refine AWp.keep [0] (st' := ⟨sp [(0, .int .u8 a0)] 0 9, [], [], []⟩) (by kernel_rfl) ?_
  refine AWp.seqX [0] (tg := []) (H := []) (st' := ⟨sp [(0, .int .u8 a0)] 0 9, [], [], []⟩) (ob := (True ∧ True)) (by kernel_rfl) ⟨trivial, trivial⟩ ?_
  refine AWp.seqX [2] (tg := [2, 8]) (H := []) (st' := ⟨sp [(2, .bool (cond (decide (48 ≤ a0)) (decide (a0 ≤ 57)) false))] 0 9, [], [], []⟩) (ob := (True ∧ ((True ∧ (True ∧ (IntKind.u8 = IntKind.u8))) ∧ (True ∧ ((((decide (48 ≤ a0)) == true) = true → True) ∧ ((((decide (48 ≤ a0)) == true) = true → (((((decide (48 ≤ a0)) == true) = true) ∧ True) ∧ (True ∧ (IntKind.u8 = IntKind.u8)))) ∧ ((True ∧ (((decide (48 ≤ a0)) = true → ((((decide (48 ≤ a0)) == true) = true) ∧ True)) ∧ ((decide (48 ≤ a0)) = false → True))) ∧ (True ∧ True)))))))) (by kernel_rfl) ⟨trivial, ⟨⟨trivial, ⟨trivial, rfl⟩⟩, ⟨trivial, ⟨(fun hg0 => trivial), ⟨(fun hg0 => ⟨⟨hg0, trivial⟩, ⟨trivial, rfl⟩⟩), ⟨⟨trivial, ⟨(fun hg0 => ⟨(beqT hg0), trivial⟩), (fun hg0 => trivial)⟩⟩, ⟨trivial, trivial⟩⟩⟩⟩⟩⟩⟩ ?_
  refine AWp.ret ?_
  obtain rfl := h
  exact ⟨[.bool (cond (decide (48 ≤ a0)) (decide (a0 ≤ 57)) false)], (True ∧ True), by kernel_rfl, ⟨trivial, trivial⟩, by kernel_rfl, ⟨rfl, rfl, rfl⟩⟩
def ref01_Letter (a0 : Int) : Bool :=
  cond (cond (decide (97 ≤ a0)) (decide (a0 ≤ 122)) false) true (cond (decide (65 ≤ a0)) (decide (a0 ≤ 90)) false)
theorem ref01_Letter_ok (a0 : Int) (r : Bool) (h : ref01_Letter a0 = r) : ACalls Try.prog 51 [.int .u8 a0] [] (fun q => q = ⟨.bool r, [], [], []⟩) := by
  unfold ref01_Letter at h
  refine ACalls.noown ?_
  refine ACalls.intro (fn := Try.f51) Try.func51 rfl ?_
  refine AWp.keep [0] (st' := ⟨sp [(0, .int .u8 a0)] 0 17, [], [], []⟩) (by kernel_rfl) ?_
  refine AWp.seqX [0] (tg := []) (H := []) (st' := ⟨sp [(0, .int .u8 a0)] 0 17, [], [], []⟩) (ob := (True ∧ True)) (by kernel_rfl) ⟨trivial, trivial⟩ ?_
  refine AWp.seqX [2] (tg := [2, 16]) (H := []) (st' := ⟨sp [(2, .bool (cond (cond (decide (97 ≤ a0)) (decide (a0 ≤ 122)) false) true (cond (decide (65 ≤ a0)) (decide (a0 ≤ 90)) false)))] 0 17, [], [], []⟩) (ob := (True ∧ ((True ∧ (True ∧ (IntKind.u8 = IntKind.u8))) ∧ (True ∧ ((((decide (97 ≤ a0)) == true) = true → True) ∧ ((((decide (97 ≤ a0)) == true) = true → (((((decide (97 ≤ a0)) == true) = true) ∧ True) ∧ (True ∧ (IntKind.u8 = IntKind.u8)))) ∧ ((True ∧ (((decide (97 ≤ a0)) = true → ((((decide (97 ≤ a0)) == true) = true) ∧ True)) ∧ ((decide (97 ≤ a0)) = false → True))) ∧ (True ∧ ((((cond (decide (97 ≤ a0)) (decide (a0 ≤ 122)) false) == false) = true → True) ∧ ((((cond (decide (97 ≤ a0)) (decide (a0 ≤ 122)) false) == false) = true → (((((cond (decide (97 ≤ a0)) (decide (a0 ≤ 122)) false) == false) = true) ∧ True) ∧ (True ∧ (IntKind.u8 = IntKind.u8)))) ∧ ((((cond (decide (97 ≤ a0)) (decide (a0 ≤ 122)) false) == false) = true → True) ∧ (((((cond (decide (97 ≤ a0)) (decide (a0 ≤ 122)) false) == false) && (((cond (decide (97 ≤ a0)) (decide (a0 ≤ 122)) false) == false) && ((decide (65 ≤ a0)) == true))) = true → True) ∧ (((((cond (decide (97 ≤ a0)) (decide (a0 ≤ 122)) false) == false) && (((cond (decide (97 ≤ a0)) (decide (a0 ≤ 122)) false) == false) && ((decide (65 ≤ a0)) == true))) = true → ((((((cond (decide (97 ≤ a0)) (decide (a0 ≤ 122)) false) == false) && (((cond (decide (97 ≤ a0)) (decide (a0 ≤ 122)) false) == false) && ((decide (65 ≤ a0)) == true))) = true) ∧ True) ∧ (True ∧ (IntKind.u8 = IntKind.u8)))) ∧ ((((cond (decide (97 ≤ a0)) (decide (a0 ≤ 122)) false) == false) = true → (((((cond (decide (97 ≤ a0)) (decide (a0 ≤ 122)) false) == false) = true) ∧ ((((cond (decide (97 ≤ a0)) (decide (a0 ≤ 122)) false) == false) = true) ∧ True)) ∧ (((decide (65 ≤ a0)) = true → (((((cond (decide (97 ≤ a0)) (decide (a0 ≤ 122)) false) == false) && (((cond (decide (97 ≤ a0)) (decide (a0 ≤ 122)) false) == false) && ((decide (65 ≤ a0)) == true))) = true) ∧ True)) ∧ ((decide (65 ≤ a0)) = false → True)))) ∧ ((True ∧ (((cond (decide (97 ≤ a0)) (decide (a0 ≤ 122)) false) = true → True) ∧ ((cond (decide (97 ≤ a0)) (decide (a0 ≤ 122)) false) = false → ((((cond (decide (97 ≤ a0)) (decide (a0 ≤ 122)) false) == false) = true) ∧ True)))) ∧ (True ∧ True)))))))))))))))) (by kernel_rfl) ⟨trivial, ⟨⟨trivial, ⟨trivial, rfl⟩⟩, ⟨trivial, ⟨(fun hg0 => trivial), ⟨(fun hg0 => ⟨⟨hg0, trivial⟩, ⟨trivial, rfl⟩⟩), ⟨⟨trivial, ⟨(fun hg0 => ⟨(beqT hg0), trivial⟩), (fun hg0 => trivial)⟩⟩, ⟨trivial, ⟨(fun hg0 => trivial), ⟨(fun hg0 => ⟨⟨hg0, trivial⟩, ⟨trivial, rfl⟩⟩), ⟨(fun hg0 => trivial), ⟨(fun hg0 => trivial), ⟨(fun hg0 => ⟨⟨hg0, trivial⟩, ⟨trivial, rfl⟩⟩), ⟨(fun hg0 => ⟨⟨hg0, ⟨hg0, trivial⟩⟩, ⟨(fun hg1 => ⟨(andI hg0 (andI hg0 (beqT hg1))), trivial⟩), (fun hg1 => trivial)⟩⟩), ⟨⟨trivial, ⟨(fun hg0 => trivial), (fun hg0 => ⟨(beqF hg0), trivial⟩)⟩⟩, ⟨trivial, trivial⟩⟩⟩⟩⟩⟩⟩⟩⟩⟩⟩⟩⟩⟩⟩ ?_
  refine AWp.ret ?_
  obtain rfl := h
  exact ⟨[.bool (cond (cond (decide (97 ≤ a0)) (decide (a0 ≤ 122)) false) true (cond (decide (65 ≤ a0)) (decide (a0 ≤ 90)) false))], (True ∧ True), by kernel_rfl, ⟨trivial, trivial⟩, by kernel_rfl, ⟨rfl, rfl, rfl⟩⟩
def ref01_Word (a0 : Int) : Bool :=
  cond (cond (ref01_Letter a0) true (ref01_Digit a0)) true (a0 == 95)
theorem ref01_Word_ok (a0 : Int) (r : Bool) (h : ref01_Word a0 = r) : ACalls Try.prog 44 [.int .u8 a0] [] (fun q => q = ⟨.bool r, [], [], []⟩) := by
  unfold ref01_Word at h
  refine ACalls.noown ?_
  refine ACalls.intro (fn := Try.f44) Try.func44 rfl ?_
  refine AWp.keep [0] (st' := ⟨sp [(0, .int .u8 a0)] 0 13, [], [], []⟩) (by kernel_rfl) ?_
  refine AWp.seqX [0] (tg := []) (H := []) (st' := ⟨sp [(0, .int .u8 a0)] 0 13, [], [], []⟩) (ob := (True ∧ True)) (by kernel_rfl) ⟨trivial, trivial⟩ ?_
  refine AWp.seqO ?_
  refine AOps.runK [0, 3] 1 (tg := [2, 12]) (H := []) (st' := ⟨sp [(0, .int .u8 a0), (3, .int .u8 a0)] 0 13, [], [], []⟩) (ob := (True ∧ True)) (by kernel_rfl) ⟨trivial, trivial⟩ ?_
  refine AOps.call1 (ds := [.int .u8 a0]) (d := .bool (ref01_Letter a0)) (ow := []) (st' := ⟨sp [(0, .int .u8 a0), (3, .int .u8 a0), (4, .bool (ref01_Letter a0))] 0 13, [], [], []⟩) (by kernel_rfl) fk51 (by kernel_rfl) ⟨trivial, trivial⟩ (by kernel_rfl) (ref01_Letter_ok a0 (ref01_Letter a0) rfl) (by kernel_rfl) ?_
  refine AOps.runK [0, 5, 6] 2 (tg := [2, 12]) (H := []) (st' := ⟨sp [(0, .int .u8 a0), (5, .bool (ref01_Letter a0)), (6, .whn ((ref01_Letter a0) == false) (.int .u8 a0))] 0 13, [], [], []⟩) (ob := (True ∧ ((((ref01_Letter a0) == false) = true → True) ∧ True))) (by kernel_rfl) ⟨trivial, ⟨(fun hg0 => trivial), trivial⟩⟩ ?_
  refine AOps.call1G (ds := [.int .u8 a0]) (d := .bool (ref01_Digit a0)) (t := 5) (g := ((ref01_Letter a0) == false)) (st' := ⟨sp [(0, .int .u8 a0), (5, .bool (ref01_Letter a0)), (6, .whn ((ref01_Letter a0) == false) (.int .u8 a0)), (7, .whn ((ref01_Letter a0) == false) (.bool (ref01_Digit a0)))] 0 13, [], [], []⟩) (by kernel_rfl) fk43 (by kernel_rfl) (by kernel_rfl) (by kernel_rfl) (by kernel_rfl) (fun hg => ⟨⟨⟨hg, trivial⟩, trivial⟩, ref01_Digit_ok a0 (ref01_Digit a0) rfl⟩) (by kernel_rfl) ?_
  refine AOps.runK [2] 6 (tg := [2, 12]) (H := []) (st' := ⟨sp [(2, .bool (cond (cond (ref01_Letter a0) true (ref01_Digit a0)) true (a0 == 95)))] 0 13, [], [], []⟩) (ob := ((True ∧ (((ref01_Letter a0) = true → True) ∧ ((ref01_Letter a0) = false → ((((ref01_Letter a0) == false) = true) ∧ True)))) ∧ (True ∧ ((((cond (ref01_Letter a0) true (ref01_Digit a0)) == false) = true → True) ∧ ((((cond (ref01_Letter a0) true (ref01_Digit a0)) == false) = true → (((((cond (ref01_Letter a0) true (ref01_Digit a0)) == false) = true) ∧ True) ∧ (True ∧ (IntKind.u8 = IntKind.u8)))) ∧ ((True ∧ (((cond (ref01_Letter a0) true (ref01_Digit a0)) = true → True) ∧ ((cond (ref01_Letter a0) true (ref01_Digit a0)) = false → ((((cond (ref01_Letter a0) true (ref01_Digit a0)) == false) = true) ∧ True)))) ∧ (True ∧ True))))))) (by kernel_rfl) ⟨⟨trivial, ⟨(fun hg0 => trivial), (fun hg0 => ⟨(beqF hg0), trivial⟩)⟩⟩, ⟨trivial, ⟨(fun hg0 => trivial), ⟨(fun hg0 => ⟨⟨hg0, trivial⟩, ⟨trivial, rfl⟩⟩), ⟨⟨trivial, ⟨(fun hg0 => trivial), (fun hg0 => ⟨(beqF hg0), trivial⟩)⟩⟩, ⟨trivial, trivial⟩⟩⟩⟩⟩⟩ ?_
  refine AOps.done ?_
  refine AWp.ret ?_
  obtain rfl := h
  exact ⟨[.bool (cond (cond (ref01_Letter a0) true (ref01_Digit a0)) true (a0 == 95))], (True ∧ True), by kernel_rfl, ⟨trivial, trivial⟩, by kernel_rfl, ⟨rfl, rfl, rfl⟩⟩
def ref01_Name_l0_b (a0 : List UInt8) (n9 : Nat) (recref01_Name_l0 : Int → Option (J Unit Bool)) (x8 : Int) : Option (J Unit Bool) :=
  cond (decide (x8 < (a0.length : Int))) (
    req (((0 : Int) ≤ x8) ∧ (x8 < (a0.length : Int))) (
      cond (!(ref01_Word ((a0.getD (x8 : Int).toNat 0).toNat : Int))) (
        some (J.ret false)) (
        recref01_Name_l0 (IntKind.i64.wrap (x8 + 1))))) (
    some (J.go ()))
def ref01_Name_l0 (a0 : List UInt8) : Nat → Int → Option (J Unit Bool)
  | 0, _ => none
  | n + 1, x => ref01_Name_l0_b a0 n (ref01_Name_l0 a0 n) x
def ref01_Name (fuel : Nat) (a0 : List UInt8) : Option Bool :=
  req ((((cond (a0 == []) true (decide (32 < (a0.length : Int)))) == false) = true → 0 < (a0.length : Int))) (
    cond (cond (cond (a0 == []) true (decide (32 < (a0.length : Int)))) true (ref01_Digit ((a0.getD 0 0).toNat : Int))) (
      some false) (
      jn (ref01_Name_l0 a0 fuel (0 : Int)) (fun s4 =>
        some true)))
theorem ref01_Name_ok (fuel : Nat) (a0 : List UInt8) (r : Bool) (h : ref01_Name fuel a0 = some r) : ACalls Try.prog 33 [.str a0] [] (fun q => q = ⟨.bool r, [], [], []⟩) := by
  unfold ref01_Name at h
  refine ACalls.noown ?_
  refine ACalls.intro (fn := Try.f33) Try.func33 rfl ?_
  refine AWp.keep [0] (st' := ⟨sp [(0, .str a0)] 0 27, [], [], []⟩) (by kernel_rfl) ?_
  refine AWp.seqX [0] (tg := []) (H := []) (st' := ⟨sp [(0, .str a0)] 0 27, [], [], []⟩) (ob := (True ∧ True)) (by kernel_rfl) ⟨trivial, trivial⟩ ?_
  refine AWp.seq ?_
  refine AWp.seqO ?_
  obtain ⟨o1, h⟩ := req_some h
  refine AOps.runK [0, 11, 13] 10 (tg := []) (H := []) (st' := ⟨sp [(0, .str a0), (11, .bool (cond (a0 == []) true (decide (32 < (a0.length : Int))))), (13, .whn ((cond (a0 == []) true (decide (32 < (a0.length : Int)))) == false) (.int .u8 ((a0.getD 0 0).toNat : Int)))] 0 27, [], [], []⟩) (ob := (True ∧ ((True ∧ (True ∧ True)) ∧ (True ∧ ((((a0 == []) == false) = true → True) ∧ ((((a0 == []) == false) = true → (((((a0 == []) == false) = true) ∧ True) ∧ True)) ∧ ((((a0 == []) == false) = true → (((((a0 == []) == false) = true) ∧ True) ∧ (True ∧ (IntKind.i64 = IntKind.i64)))) ∧ ((True ∧ (((a0 == []) = true → True) ∧ ((a0 == []) = false → ((((a0 == []) == false) = true) ∧ True)))) ∧ (True ∧ ((((cond (a0 == []) true (decide (32 < (a0.length : Int)))) == false) = true → True) ∧ ((((cond (a0 == []) true (decide (32 < (a0.length : Int)))) == false) = true → (((((cond (a0 == []) true (decide (32 < (a0.length : Int)))) == false) = true) ∧ True) ∧ (True ∧ (((0 : Int) ≤ 0) ∧ (0 < (a0.length : Int)))))) ∧ True))))))))))) (by kernel_rfl) ⟨trivial, ⟨⟨trivial, ⟨trivial, trivial⟩⟩, ⟨trivial, ⟨(fun hg0 => trivial), ⟨(fun hg0 => ⟨⟨hg0, trivial⟩, trivial⟩), ⟨(fun hg0 => ⟨⟨hg0, trivial⟩, ⟨trivial, rfl⟩⟩), ⟨⟨trivial, ⟨(fun hg0 => trivial), (fun hg0 => ⟨(beqF hg0), trivial⟩)⟩⟩, ⟨trivial, ⟨(fun hg0 => trivial), ⟨(fun hg0 => ⟨⟨hg0, trivial⟩, ⟨trivial, ⟨(by decide), (o1 hg0)⟩⟩⟩), trivial⟩⟩⟩⟩⟩⟩⟩⟩⟩⟩ ?_
  refine AOps.call1G (ds := [.int .u8 ((a0.getD 0 0).toNat : Int)]) (d := .bool (ref01_Digit ((a0.getD 0 0).toNat : Int))) (t := 11) (g := ((cond (a0 == []) true (decide (32 < (a0.length : Int)))) == false)) (st' := ⟨sp [(0, .str a0), (11, .bool (cond (a0 == []) true (decide (32 < (a0.length : Int))))), (13, .whn ((cond (a0 == []) true (decide (32 < (a0.length : Int)))) == false) (.int .u8 ((a0.getD 0 0).toNat : Int))), (14, .whn ((cond (a0 == []) true (decide (32 < (a0.length : Int)))) == false) (.bool (ref01_Digit ((a0.getD 0 0).toNat : Int))))] 0 27, [], [], []⟩) (by kernel_rfl) fk43 (by kernel_rfl) (by kernel_rfl) (by kernel_rfl) (by kernel_rfl) (fun hg => ⟨⟨⟨hg, trivial⟩, trivial⟩, ref01_Digit_ok ((a0.getD 0 0).toNat : Int) (ref01_Digit ((a0.getD 0 0).toNat : Int)) rfl⟩) (by kernel_rfl) ?_
  refine AOps.runK [0, 15] 1 (tg := []) (H := []) (st' := ⟨sp [(0, .str a0), (15, .bool (cond (cond (a0 == []) true (decide (32 < (a0.length : Int)))) true (ref01_Digit ((a0.getD 0 0).toNat : Int))))] 0 27, [], [], []⟩) (ob := ((True ∧ (((cond (a0 == []) true (decide (32 < (a0.length : Int)))) = true → True) ∧ ((cond (a0 == []) true (decide (32 < (a0.length : Int)))) = false → ((((cond (a0 == []) true (decide (32 < (a0.length : Int)))) == false) = true) ∧ True)))) ∧ True)) (by kernel_rfl) ⟨⟨trivial, ⟨(fun hg0 => trivial), (fun hg0 => ⟨(beqF hg0), trivial⟩)⟩⟩, trivial⟩ ?_
  refine AOps.done ?_
  refine AWp.cond (b := cond (cond (a0 == []) true (decide (32 < (a0.length : Int)))) true (ref01_Digit ((a0.getD 0 0).toNat : Int))) (by kernel_rfl) trivial (fun c3 => ?_) (fun c3 => ?_)
  · have h := cond_t c3 h
    refine AWp.seqX [2] (tg := []) (H := []) (st' := ⟨sp [(2, .bool false)] 0 27, [], [], []⟩) (ob := (True ∧ True)) (by kernel_rfl) ⟨trivial, trivial⟩ ?_
    refine AWp.ret ?_
    obtain rfl := Option.some.inj h
    exact ⟨[.bool false], (True ∧ True), by kernel_rfl, ⟨trivial, trivial⟩, by kernel_rfl, ⟨rfl, rfl, rfl⟩⟩
  · have h := cond_f c3 h
    refine AWp.skip ?_
    obtain ⟨j6, e5, k7⟩ := jn_some h
    refine AWp.seqSum (σ := Unit) (fun s4 => ⟨sp [] 0 27, [], [], []⟩) (fun s4 => j6 = .go s4) ?_ ?_
    ·
      refine AWp.seqX [0, 3] (tg := []) (H := []) (st' := ⟨sp [(0, .str a0), (3, .int .i64 0)] 0 27, [], [], []⟩) (ob := (True ∧ True)) (by kernel_rfl) ⟨trivial, trivial⟩ ?_
      refine AWp.block ?_
      refine AWp.loop (ι := {p : Nat × (Int) // ref01_Name_l0 a0 p.1 p.2 = some _}) (fun p => ⟨sp [(0, .str a0), (3, .int .i64 p.1.2)] 0 27, [], [], []⟩) (fun p => p.1.1) ⟨(fuel, (0 : Int)), e5⟩ ⟨⟨.inr ⟨rfl, rfl⟩, ⟨.inl rfl, ⟨.inl rfl, ⟨.inr ⟨rfl, rfl⟩, ⟨.inl rfl, ⟨.inl rfl, ⟨.inl rfl, ⟨.inl rfl, ⟨.inl rfl, ⟨.inl rfl, ⟨.inl rfl, ⟨.inl rfl, ⟨.inl rfl, ⟨.inl rfl, ⟨.inl rfl, ⟨.inl rfl, ⟨.inl rfl, ⟨.inl rfl, ⟨.inl rfl, ⟨.inl rfl, ⟨.inl rfl, ⟨.inl rfl, ⟨.inl rfl, ⟨.inl rfl, ⟨.inl rfl, ⟨.inl rfl, ⟨.inl rfl, trivial⟩⟩⟩⟩⟩⟩⟩⟩⟩⟩⟩⟩⟩⟩⟩⟩⟩⟩⟩⟩⟩⟩⟩⟩⟩⟩⟩, rfl, rfl, rfl, ⟨_, .slnil, (.refl _)⟩, rfl⟩ ?_
      rintro ⟨⟨n9, x8⟩, h⟩
      cases n9 with
      | zero => cases h
      | succ n9 =>
        replace h : ref01_Name_l0_b a0 n9 (ref01_Name_l0 a0 n9) x8 = some _ := h
        unfold ref01_Name_l0_b at h
        refine AWp.seq ?_
        refine AWp.seqX [0, 3, 19] (tg := []) (H := []) (st' := ⟨sp [(0, .str a0), (3, .int .i64 x8), (19, .bool (decide (x8 < (a0.length : Int))))] 0 27, [], [], []⟩) (ob := (True ∧ (True ∧ ((True ∧ True) ∧ ((True ∧ (True ∧ (IntKind.i64 = IntKind.i64))) ∧ True))))) (by kernel_rfl) ⟨trivial, ⟨trivial, ⟨⟨trivial, trivial⟩, ⟨⟨trivial, ⟨trivial, rfl⟩⟩, trivial⟩⟩⟩⟩ ?_
        refine AWp.cond (b := decide (x8 < (a0.length : Int))) (by kernel_rfl) trivial (fun c10 => ?_) (fun c10 => ?_)
        · have h := cond_t c10 h
          refine AWp.skip ?_
          refine AWp.seq ?_
          refine AWp.block ?_
          refine AWp.seqO ?_
          obtain ⟨⟨o11, o12⟩, h⟩ := req_some h
          refine AOps.runK [0, 3, 24] 3 (tg := []) (H := []) (st' := ⟨sp [(0, .str a0), (3, .int .i64 x8), (24, .int .u8 ((a0.getD (x8 : Int).toNat 0).toNat : Int))] 0 27, [], [], []⟩) (ob := (True ∧ (True ∧ ((True ∧ (True ∧ (((0 : Int) ≤ x8) ∧ (x8 < (a0.length : Int))))) ∧ True)))) (by kernel_rfl) ⟨trivial, ⟨trivial, ⟨⟨trivial, ⟨trivial, ⟨o11, o12⟩⟩⟩, trivial⟩⟩⟩ ?_
          refine AOps.call1 (ds := [.int .u8 ((a0.getD (x8 : Int).toNat 0).toNat : Int)]) (d := .bool (ref01_Word ((a0.getD (x8 : Int).toNat 0).toNat : Int))) (ow := []) (st' := ⟨sp [(0, .str a0), (3, .int .i64 x8), (24, .int .u8 ((a0.getD (x8 : Int).toNat 0).toNat : Int)), (25, .bool (ref01_Word ((a0.getD (x8 : Int).toNat 0).toNat : Int)))] 0 27, [], [], []⟩) (by kernel_rfl) fk44 (by kernel_rfl) ⟨trivial, trivial⟩ (by kernel_rfl) (ref01_Word_ok ((a0.getD (x8 : Int).toNat 0).toNat : Int) (ref01_Word ((a0.getD (x8 : Int).toNat 0).toNat : Int)) rfl) (by kernel_rfl) ?_
          refine AOps.runK [0, 3, 26] 1 (tg := []) (H := []) (st' := ⟨sp [(0, .str a0), (3, .int .i64 x8), (26, .bool (!(ref01_Word ((a0.getD (x8 : Int).toNat 0).toNat : Int))))] 0 27, [], [], []⟩) (ob := (True ∧ True)) (by kernel_rfl) ⟨trivial, trivial⟩ ?_
          refine AOps.done ?_
          refine AWp.cond (b := !(ref01_Word ((a0.getD (x8 : Int).toNat 0).toNat : Int))) (by kernel_rfl) trivial (fun c14 => ?_) (fun c14 => ?_)
          · have h := cond_t c14 h
            refine AWp.seqX [2] (tg := []) (H := []) (st' := ⟨sp [(2, .bool false)] 0 27, [], [], []⟩) (ob := (True ∧ True)) (by kernel_rfl) ⟨trivial, trivial⟩ ?_
            refine AWp.ret ?_
            have h := jk_some h k7
            obtain rfl := Option.some.inj h
            exact ⟨[.bool false], (True ∧ True), by kernel_rfl, ⟨trivial, trivial⟩, by kernel_rfl, ⟨rfl, rfl, rfl⟩⟩
          · have h := cond_f c14 h
            refine AWp.skip ?_
            refine AWp.tailN [0, 3] [] (tg := [3, 21]) (H := []) (st' := ⟨sp [(0, .str a0), (3, .int .i64 (IntKind.i64.wrap (x8 + 1)))] 0 27, [], [], []⟩) (ob := (True ∧ ((True ∧ (True ∧ (IntKind.i64 = IntKind.i64))) ∧ (True ∧ True)))) (by kernel_rfl) ⟨trivial, ⟨⟨trivial, ⟨trivial, rfl⟩⟩, ⟨trivial, trivial⟩⟩⟩ ?_
            exact ⟨⟨(n9, IntKind.i64.wrap (x8 + 1)), h⟩, Nat.lt_succ_self _, ⟨⟨.inr ⟨rfl, rfl⟩, ⟨.inl rfl, ⟨.inl rfl, ⟨.inr ⟨rfl, rfl⟩, ⟨.inl rfl, ⟨.inl rfl, ⟨.inl rfl, ⟨.inl rfl, ⟨.inl rfl, ⟨.inl rfl, ⟨.inl rfl, ⟨.inl rfl, ⟨.inl rfl, ⟨.inl rfl, ⟨.inl rfl, ⟨.inl rfl, ⟨.inl rfl, ⟨.inl rfl, ⟨.inl rfl, ⟨.inl rfl, ⟨.inl rfl, ⟨.inl rfl, ⟨.inl rfl, ⟨.inl rfl, ⟨.inl rfl, ⟨.inl rfl, ⟨.inl rfl, trivial⟩⟩⟩⟩⟩⟩⟩⟩⟩⟩⟩⟩⟩⟩⟩⟩⟩⟩⟩⟩⟩⟩⟩⟩⟩⟩⟩, rfl, rfl, rfl, ⟨_, .slnil, (.refl _)⟩, rfl⟩⟩
        · have h := cond_f c10 h
          refine AWp.exit ?_
          obtain rfl := Option.some.inj h
          exact ⟨_, rfl, ⟨⟨.inl rfl, ⟨.inl rfl, ⟨.inl rfl, ⟨.inl rfl, ⟨.inl rfl, ⟨.inl rfl, ⟨.inl rfl, ⟨.inl rfl, ⟨.inl rfl, ⟨.inl rfl, ⟨.inl rfl, ⟨.inl rfl, ⟨.inl rfl, ⟨.inl rfl, ⟨.inl rfl, ⟨.inl rfl, ⟨.inl rfl, ⟨.inl rfl, ⟨.inl rfl, ⟨.inl rfl, ⟨.inl rfl, ⟨.inl rfl, ⟨.inl rfl, ⟨.inl rfl, ⟨.inl rfl, ⟨.inl rfl, ⟨.inl rfl, trivial⟩⟩⟩⟩⟩⟩⟩⟩⟩⟩⟩⟩⟩⟩⟩⟩⟩⟩⟩⟩⟩⟩⟩⟩⟩⟩⟩, rfl, rfl, rfl, ⟨_, .slnil, (.refl _)⟩, rfl⟩⟩
    · intro s4 s4h
      have h := jk_go s4h k7
      refine AWp.seqX [2] (tg := []) (H := []) (st' := ⟨sp [(2, .bool true)] 0 27, [], [], []⟩) (ob := (True ∧ True)) (by kernel_rfl) ⟨trivial, trivial⟩ ?_
      refine AWp.ret ?_
      obtain rfl := Option.some.inj h
      exact ⟨[.bool true], (True ∧ True), by kernel_rfl, ⟨trivial, trivial⟩, by kernel_rfl, ⟨rfl, rfl, rfl⟩⟩
def chars_letter (a0 : Int) : Bool :=
  cond (cond (decide (65 ≤ a0)) (decide (a0 ≤ 90)) false) true (cond (decide (97 ≤ a0)) (decide (a0 ≤ 122)) false)
theorem chars_letter_ok (a0 : Int) (r : Bool) (h : chars_letter a0 = r) : ACalls Try.prog 41 [.int .i32 a0] [] (fun q => q = ⟨.bool r, [], [], []⟩) := by
  unfold chars_letter at h
  refine ACalls.noown ?_
  refine ACalls.intro (fn := Try.f41) Try.func41 rfl ?_
  refine AWp.keep [0] (st' := ⟨sp [(0, .int .i32 a0)] 0 17, [], [], []⟩) (by kernel_rfl) ?_
  refine AWp.seqX [0] (tg := []) (H := []) (st' := ⟨sp [(0, .int .i32 a0)] 0 17, [], [], []⟩) (ob := (True ∧ True)) (by kernel_rfl) ⟨trivial, trivial⟩ ?_
  refine AWp.seqX [2] (tg := [2, 16]) (H := []) (st' := ⟨sp [(2, .bool (cond (cond (decide (65 ≤ a0)) (decide (a0 ≤ 90)) false) true (cond (decide (97 ≤ a0)) (decide (a0 ≤ 122)) false)))] 0 17, [], [], []⟩) (ob := (True ∧ ((True ∧ (True ∧ (IntKind.i32 = IntKind.i32))) ∧ (True ∧ ((((decide (65 ≤ a0)) == true) = true → True) ∧ ((((decide (65 ≤ a0)) == true) = true → (((((decide (65 ≤ a0)) == true) = true) ∧ True) ∧ (True ∧ (IntKind.i32 = IntKind.i32)))) ∧ ((True ∧ (((decide (65 ≤ a0)) = true → ((((decide (65 ≤ a0)) == true) = true) ∧ True)) ∧ ((decide (65 ≤ a0)) = false → True))) ∧ (True ∧ ((((cond (decide (65 ≤ a0)) (decide (a0 ≤ 90)) false) == false) = true → True) ∧ ((((cond (decide (65 ≤ a0)) (decide (a0 ≤ 90)) false) == false) = true → (True ∧ (((((cond (decide (65 ≤ a0)) (decide (a0 ≤ 90)) false) == false) = true) ∧ True) ∧ (IntKind.i32 = IntKind.i32)))) ∧ ((((cond (decide (65 ≤ a0)) (decide (a0 ≤ 90)) false) == false) = true → True) ∧ (((((cond (decide (65 ≤ a0)) (decide (a0 ≤ 90)) false) == false) && (((cond (decide (65 ≤ a0)) (decide (a0 ≤ 90)) false) == false) && ((decide (97 ≤ a0)) == true))) = true → True) ∧ (((((cond (decide (65 ≤ a0)) (decide (a0 ≤ 90)) false) == false) && (((cond (decide (65 ≤ a0)) (decide (a0 ≤ 90)) false) == false) && ((decide (97 ≤ a0)) == true))) = true → ((((((cond (decide (65 ≤ a0)) (decide (a0 ≤ 90)) false) == false) && (((cond (decide (65 ≤ a0)) (decide (a0 ≤ 90)) false) == false) && ((decide (97 ≤ a0)) == true))) = true) ∧ True) ∧ (True ∧ (IntKind.i32 = IntKind.i32)))) ∧ ((((cond (decide (65 ≤ a0)) (decide (a0 ≤ 90)) false) == false) = true → (((((cond (decide (65 ≤ a0)) (decide (a0 ≤ 90)) false) == false) = true) ∧ ((((cond (decide (65 ≤ a0)) (decide (a0 ≤ 90)) false) == false) = true) ∧ True)) ∧ (((decide (97 ≤ a0)) = true → (((((cond (decide (65 ≤ a0)) (decide (a0 ≤ 90)) false) == false) && (((cond (decide (65 ≤ a0)) (decide (a0 ≤ 90)) false) == false) && ((decide (97 ≤ a0)) == true))) = true) ∧ True)) ∧ ((decide (97 ≤ a0)) = false → True)))) ∧ ((True ∧ (((cond (decide (65 ≤ a0)) (decide (a0 ≤ 90)) false) = true → True) ∧ ((cond (decide (65 ≤ a0)) (decide (a0 ≤ 90)) false) = false → ((((cond (decide (65 ≤ a0)) (decide (a0 ≤ 90)) false) == false) = true) ∧ True)))) ∧ (True ∧ True)))))))))))))))) (by kernel_rfl) ⟨trivial, ⟨⟨trivial, ⟨trivial, rfl⟩⟩, ⟨trivial, ⟨(fun hg0 => trivial), ⟨(fun hg0 => ⟨⟨hg0, trivial⟩, ⟨trivial, rfl⟩⟩), ⟨⟨trivial, ⟨(fun hg0 => ⟨(beqT hg0), trivial⟩), (fun hg0 => trivial)⟩⟩, ⟨trivial, ⟨(fun hg0 => trivial), ⟨(fun hg0 => ⟨trivial, ⟨⟨hg0, trivial⟩, rfl⟩⟩), ⟨(fun hg0 => trivial), ⟨(fun hg0 => trivial), ⟨(fun hg0 => ⟨⟨hg0, trivial⟩, ⟨trivial, rfl⟩⟩), ⟨(fun hg0 => ⟨⟨hg0, ⟨hg0, trivial⟩⟩, ⟨(fun hg1 => ⟨(andI hg0 (andI hg0 (beqT hg1))), trivial⟩), (fun hg1 => trivial)⟩⟩), ⟨⟨trivial, ⟨(fun hg0 => trivial), (fun hg0 => ⟨(beqF hg0), trivial⟩)⟩⟩, ⟨trivial, trivial⟩⟩⟩⟩⟩⟩⟩⟩⟩⟩⟩⟩⟩⟩⟩ ?_
  refine AWp.ret ?_
  obtain rfl := h
  exact ⟨[.bool (cond (cond (decide (65 ≤ a0)) (decide (a0 ≤ 90)) false) true (cond (decide (97 ≤ a0)) (decide (a0 ≤ 122)) false))], (True ∧ True), by kernel_rfl, ⟨trivial, trivial⟩, by kernel_rfl, ⟨rfl, rfl, rfl⟩⟩
def chars_digit (a0 : Int) : Bool :=
  cond (decide (48 ≤ a0)) (decide (a0 ≤ 57)) false
theorem chars_digit_ok (a0 : Int) (r : Bool) (h : chars_digit a0 = r) : ACalls Try.prog 42 [.int .i32 a0] [] (fun q => q = ⟨.bool r, [], [], []⟩) := by
  unfold chars_digit at h
  refine ACalls.noown ?_
  refine ACalls.intro (fn := Try.f42) Try.func42 rfl ?_
  refine AWp.keep [0] (st' := ⟨sp [(0, .int .i32 a0)] 0 9, [], [], []⟩) (by kernel_rfl) ?_
  refine AWp.seqX [0] (tg := []) (H := []) (st' := ⟨sp [(0, .int .i32 a0)] 0 9, [], [], []⟩) (ob := (True ∧ True)) (by kernel_rfl) ⟨trivial, trivial⟩ ?_
  refine AWp.seqX [2] (tg := [2, 8]) (H := []) (st' := ⟨sp [(2, .bool (cond (decide (48 ≤ a0)) (decide (a0 ≤ 57)) false))] 0 9, [], [], []⟩) (ob := (True ∧ ((True ∧ (True ∧ (IntKind.i32 = IntKind.i32))) ∧ (True ∧ ((((decide (48 ≤ a0)) == true) = true → True) ∧ ((((decide (48 ≤ a0)) == true) = true → (((((decide (48 ≤ a0)) == true) = true) ∧ True) ∧ (True ∧ (IntKind.i32 = IntKind.i32)))) ∧ ((True ∧ (((decide (48 ≤ a0)) = true → ((((decide (48 ≤ a0)) == true) = true) ∧ True)) ∧ ((decide (48 ≤ a0)) = false → True))) ∧ (True ∧ True)))))))) (by kernel_rfl) ⟨trivial, ⟨⟨trivial, ⟨trivial, rfl⟩⟩, ⟨trivial, ⟨(fun hg0 => trivial), ⟨(fun hg0 => ⟨⟨hg0, trivial⟩, ⟨trivial, rfl⟩⟩), ⟨⟨trivial, ⟨(fun hg0 => ⟨(beqT hg0), trivial⟩), (fun hg0 => trivial)⟩⟩, ⟨trivial, trivial⟩⟩⟩⟩⟩⟩⟩ ?_
  refine AWp.ret ?_
  obtain rfl := h
  exact ⟨[.bool (cond (decide (48 ≤ a0)) (decide (a0 ≤ 57)) false)], (True ∧ True), by kernel_rfl, ⟨trivial, trivial⟩, by kernel_rfl, ⟨rfl, rfl, rfl⟩⟩
def chars_Name_l0_b (a0 : List UInt8) (n7 : Nat) (recchars_Name_l0 : Nat → Option (J Nat Bool)) (x6 : Nat) : Option (J Nat Bool) :=
  cond (decide (x6 < a0.length)) (
    cond (cond (cond (chars_letter ((Utf8.decode ⟨⟨a0⟩⟩ x6).1 : Int)) true (((Utf8.decode ⟨⟨a0⟩⟩ x6).1 : Int) == 95)) true (cond (chars_digit ((Utf8.decode ⟨⟨a0⟩⟩ x6).1 : Int)) (decide (0 < (x6 : Int))) false)) (
      recchars_Name_l0 (x6 + (Utf8.decode ⟨⟨a0⟩⟩ x6).2)) (
      some (J.ret false))) (
    some (J.go x6))
def chars_Name_l0 (a0 : List UInt8) : Nat → Nat → Option (J Nat Bool)
  | 0, _ => none
  | n + 1, x => chars_Name_l0_b a0 n (chars_Name_l0 a0 n) x
def chars_Name (fuel : Nat) (a0 : List UInt8) : Option Bool :=
  cond (cond (decide ((a0.length : Int) < 1)) true (decide (32 < (a0.length : Int)))) (
    some false) (
    jn (chars_Name_l0 a0 fuel 0) (fun s2 =>
      some true))
theorem chars_Name_ok (fuel : Nat) (a0 : List UInt8) (r : Bool) (h : chars_Name fuel a0 = some r) : ACalls Try.prog 32 [.str a0] [] (fun q => q = ⟨.bool r, [], [], []⟩) := by
  unfold chars_Name at h
  refine ACalls.noown ?_
  refine ACalls.intro (fn := Try.f32) Try.func32 rfl ?_
  refine AWp.keep [0] (st' := ⟨sp [(0, .str a0)] 0 33, [], [], []⟩) (by kernel_rfl) ?_
  refine AWp.seqX [0] (tg := []) (H := []) (st' := ⟨sp [(0, .str a0)] 0 33, [], [], []⟩) (ob := (True ∧ True)) (by kernel_rfl) ⟨trivial, trivial⟩ ?_
  refine AWp.seq ?_
  refine AWp.seqX [0, 12] (tg := []) (H := []) (st' := ⟨sp [(0, .str a0), (12, .bool (cond (decide ((a0.length : Int) < 1)) true (decide (32 < (a0.length : Int)))))] 0 33, [], [], []⟩) (ob := (True ∧ ((True ∧ True) ∧ ((True ∧ (True ∧ (IntKind.i64 = IntKind.i64))) ∧ (True ∧ ((((decide ((a0.length : Int) < 1)) == false) = true → True) ∧ ((((decide ((a0.length : Int) < 1)) == false) = true → (((((decide ((a0.length : Int) < 1)) == false) = true) ∧ True) ∧ True)) ∧ ((((decide ((a0.length : Int) < 1)) == false) = true → (((((decide ((a0.length : Int) < 1)) == false) = true) ∧ True) ∧ (True ∧ (IntKind.i64 = IntKind.i64)))) ∧ ((True ∧ (((decide ((a0.length : Int) < 1)) = true → True) ∧ ((decide ((a0.length : Int) < 1)) = false → ((((decide ((a0.length : Int) < 1)) == false) = true) ∧ True)))) ∧ True))))))))) (by kernel_rfl) ⟨trivial, ⟨⟨trivial, trivial⟩, ⟨⟨trivial, ⟨trivial, rfl⟩⟩, ⟨trivial, ⟨(fun hg0 => trivial), ⟨(fun hg0 => ⟨⟨hg0, trivial⟩, trivial⟩), ⟨(fun hg0 => ⟨⟨hg0, trivial⟩, ⟨trivial, rfl⟩⟩), ⟨⟨trivial, ⟨(fun hg0 => trivial), (fun hg0 => ⟨(beqF hg0), trivial⟩)⟩⟩, trivial⟩⟩⟩⟩⟩⟩⟩⟩ ?_
  refine AWp.cond (b := cond (decide ((a0.length : Int) < 1)) true (decide (32 < (a0.length : Int)))) (by kernel_rfl) trivial (fun c1 => ?_) (fun c1 => ?_)
  · have h := cond_t c1 h
    refine AWp.seqX [2] (tg := []) (H := []) (st' := ⟨sp [(2, .bool false)] 0 33, [], [], []⟩) (ob := (True ∧ True)) (by kernel_rfl) ⟨trivial, trivial⟩ ?_
    refine AWp.ret ?_
    obtain rfl := Option.some.inj h
    exact ⟨[.bool false], (True ∧ True), by kernel_rfl, ⟨trivial, trivial⟩, by kernel_rfl, ⟨rfl, rfl, rfl⟩⟩
  · have h := cond_f c1 h
    refine AWp.skip ?_
    obtain ⟨j4, e3, k5⟩ := jn_some h
    refine AWp.seqSum (σ := Nat) (fun s2 => ⟨sp [] 0 33, [.iter a0 s2], [], []⟩) (fun s2 => j4 = .go s2) ?_ ?_
    ·
      refine AWp.seqX [14] (tg := []) (H := []) (st' := ⟨sp [(14, .ptr true 0 0)] 0 33, [.iter a0 0], [], []⟩) (ob := (True ∧ (True ∧ True))) (by kernel_rfl) ⟨trivial, ⟨trivial, trivial⟩⟩ ?_
      refine AWp.block ?_
      refine AWp.loop (ι := {p : Nat × (Nat) // chars_Name_l0 a0 p.1 p.2 = some _}) (fun p => ⟨sp [(14, .ptr true 0 0)] 0 33, [.iter a0 p.1.2], [], []⟩) (fun p => p.1.1) ⟨(fuel, 0), e3⟩ ⟨⟨.inl rfl, ⟨.inl rfl, ⟨.inl rfl, ⟨.inl rfl, ⟨.inl rfl, ⟨.inl rfl, ⟨.inl rfl, ⟨.inl rfl, ⟨.inl rfl, ⟨.inl rfl, ⟨.inl rfl, ⟨.inl rfl, ⟨.inl rfl, ⟨.inl rfl, ⟨.inr ⟨rfl, rfl⟩, ⟨.inl rfl, ⟨.inl rfl, ⟨.inl rfl, ⟨.inl rfl, ⟨.inl rfl, ⟨.inl rfl, ⟨.inl rfl, ⟨.inl rfl, ⟨.inl rfl, ⟨.inl rfl, ⟨.inl rfl, ⟨.inl rfl, ⟨.inl rfl, ⟨.inl rfl, ⟨.inl rfl, ⟨.inl rfl, ⟨.inl rfl, ⟨.inl rfl, trivial⟩⟩⟩⟩⟩⟩⟩⟩⟩⟩⟩⟩⟩⟩⟩⟩⟩⟩⟩⟩⟩⟩⟩⟩⟩⟩⟩⟩⟩⟩⟩⟩⟩, rfl, rfl, rfl, ⟨_, .slnil, (.refl _)⟩, rfl⟩ ?_
      rintro ⟨⟨n7, x6⟩, h⟩
      cases n7 with
      | zero => cases h
      | succ n7 =>
        replace h : chars_Name_l0_b a0 n7 (chars_Name_l0 a0 n7) x6 = some _ := h
        unfold chars_Name_l0_b at h
        refine AWp.seqO ?_
        by_cases c8 : x6 < a0.length
        · have h := cond_t (decide_eq_true c8) h
          refine AOps.nextMore (r := 0) (p := x6) (l := a0) (st' := ⟨sp [(14, .ptr true 0 0), (15, .tuple [.bool true, .int .i64 (x6 : Int), .int .i32 ((Utf8.decode ⟨⟨a0⟩⟩ x6).1 : Int)])] 0 33, [.iter a0 (x6 + (Utf8.decode ⟨⟨a0⟩⟩ x6).2)], [], []⟩) (by kernel_rfl) (by kernel_rfl) c8 (by kernel_rfl) ?_
          refine AOps.runK [14, 15, 16] 1 (tg := []) (H := []) (st' := ⟨sp [(14, .ptr true 0 0), (15, .tuple [.bool true, .int .i64 (x6 : Int), .int .i32 ((Utf8.decode ⟨⟨a0⟩⟩ x6).1 : Int)]), (16, .bool true)] 0 33, [.iter a0 (x6 + (Utf8.decode ⟨⟨a0⟩⟩ x6).2)], [], []⟩) (ob := ((True ∧ (0 < 3)) ∧ True)) (by kernel_rfl) ⟨⟨trivial, (by decide)⟩, trivial⟩ ?_
          refine AOps.done ?_
          refine AWp.seq ?_
          refine AWp.cond (b := true) (by kernel_rfl) trivial (fun c9 => ?_) (fun c9 => ?_)
          · skip
            refine AWp.skip ?_
            refine AWp.block ?_
            refine AWp.seqX [3, 4, 14] (tg := [3, 4, 17, 18]) (H := []) (st' := ⟨sp [(3, .int .i64 (x6 : Int)), (4, .int .i32 ((Utf8.decode ⟨⟨a0⟩⟩ x6).1 : Int)), (14, .ptr true 0 0)] 0 33, [.iter a0 (x6 + (Utf8.decode ⟨⟨a0⟩⟩ x6).2)], [], []⟩) (ob := ((True ∧ (1 < 3)) ∧ ((True ∧ (2 < 3)) ∧ (True ∧ (True ∧ True))))) (by kernel_rfl) ⟨⟨trivial, (by decide)⟩, ⟨⟨trivial, (by decide)⟩, ⟨trivial, ⟨trivial, trivial⟩⟩⟩⟩ ?_
            refine AWp.seq ?_
            refine AWp.seqO ?_
            refine AOps.runK [3, 4, 14, 19] 1 (tg := []) (H := []) (st' := ⟨sp [(3, .int .i64 (x6 : Int)), (4, .int .i32 ((Utf8.decode ⟨⟨a0⟩⟩ x6).1 : Int)), (14, .ptr true 0 0), (19, .int .i32 ((Utf8.decode ⟨⟨a0⟩⟩ x6).1 : Int))] 0 33, [.iter a0 (x6 + (Utf8.decode ⟨⟨a0⟩⟩ x6).2)], [], []⟩) (ob := (True ∧ True)) (by kernel_rfl) ⟨trivial, trivial⟩ ?_
            refine AOps.call1 (ds := [.int .i32 ((Utf8.decode ⟨⟨a0⟩⟩ x6).1 : Int)]) (d := .bool (chars_letter ((Utf8.decode ⟨⟨a0⟩⟩ x6).1 : Int))) (ow := []) (st' := ⟨sp [(3, .int .i64 (x6 : Int)), (4, .int .i32 ((Utf8.decode ⟨⟨a0⟩⟩ x6).1 : Int)), (14, .ptr true 0 0), (19, .int .i32 ((Utf8.decode ⟨⟨a0⟩⟩ x6).1 : Int)), (20, .bool (chars_letter ((Utf8.decode ⟨⟨a0⟩⟩ x6).1 : Int)))] 0 33, [.iter a0 (x6 + (Utf8.decode ⟨⟨a0⟩⟩ x6).2)], [], []⟩) (by kernel_rfl) fk41 (by kernel_rfl) ⟨trivial, trivial⟩ (by kernel_rfl) (chars_letter_ok ((Utf8.decode ⟨⟨a0⟩⟩ x6).1 : Int) (chars_letter ((Utf8.decode ⟨⟨a0⟩⟩ x6).1 : Int)) rfl) (by kernel_rfl) ?_
            refine AOps.runK [3, 14, 25, 26] 6 (tg := []) (H := []) (st' := ⟨sp [(3, .int .i64 (x6 : Int)), (14, .ptr true 0 0), (25, .bool (cond (chars_letter ((Utf8.decode ⟨⟨a0⟩⟩ x6).1 : Int)) true (((Utf8.decode ⟨⟨a0⟩⟩ x6).1 : Int) == 95))), (26, .whn ((cond (chars_letter ((Utf8.decode ⟨⟨a0⟩⟩ x6).1 : Int)) true (((Utf8.decode ⟨⟨a0⟩⟩ x6).1 : Int) == 95)) == false) (.int .i32 ((Utf8.decode ⟨⟨a0⟩⟩ x6).1 : Int)))] 0 33, [.iter a0 (x6 + (Utf8.decode ⟨⟨a0⟩⟩ x6).2)], [], []⟩) (ob := (True ∧ ((((chars_letter ((Utf8.decode ⟨⟨a0⟩⟩ x6).1 : Int)) == false) = true → True) ∧ ((((chars_letter ((Utf8.decode ⟨⟨a0⟩⟩ x6).1 : Int)) == false) = true → (((((chars_letter ((Utf8.decode ⟨⟨a0⟩⟩ x6).1 : Int)) == false) = true) ∧ True) ∧ (True ∧ (IntKind.i32 = IntKind.i32)))) ∧ ((True ∧ (((chars_letter ((Utf8.decode ⟨⟨a0⟩⟩ x6).1 : Int)) = true → True) ∧ ((chars_letter ((Utf8.decode ⟨⟨a0⟩⟩ x6).1 : Int)) = false → ((((chars_letter ((Utf8.decode ⟨⟨a0⟩⟩ x6).1 : Int)) == false) = true) ∧ True)))) ∧ (True ∧ ((((cond (chars_letter ((Utf8.decode ⟨⟨a0⟩⟩ x6).1 : Int)) true (((Utf8.decode ⟨⟨a0⟩⟩ x6).1 : Int) == 95)) == false) = true → True) ∧ True))))))) (by kernel_rfl) ⟨trivial, ⟨(fun hg0 => trivial), ⟨(fun hg0 => ⟨⟨hg0, trivial⟩, ⟨trivial, rfl⟩⟩), ⟨⟨trivial, ⟨(fun hg0 => trivial), (fun hg0 => ⟨(beqF hg0), trivial⟩)⟩⟩, ⟨trivial, ⟨(fun hg0 => trivial), trivial⟩⟩⟩⟩⟩⟩ ?_
            refine AOps.call1G (ds := [.int .i32 ((Utf8.decode ⟨⟨a0⟩⟩ x6).1 : Int)]) (d := .bool (chars_digit ((Utf8.decode ⟨⟨a0⟩⟩ x6).1 : Int))) (t := 25) (g := ((cond (chars_letter ((Utf8.decode ⟨⟨a0⟩⟩ x6).1 : Int)) true (((Utf8.decode ⟨⟨a0⟩⟩ x6).1 : Int) == 95)) == false)) (st' := ⟨sp [(3, .int .i64 (x6 : Int)), (14, .ptr true 0 0), (25, .bool (cond (chars_letter ((Utf8.decode ⟨⟨a0⟩⟩ x6).1 : Int)) true (((Utf8.decode ⟨⟨a0⟩⟩ x6).1 : Int) == 95))), (26, .whn ((cond (chars_letter ((Utf8.decode ⟨⟨a0⟩⟩ x6).1 : Int)) true (((Utf8.decode ⟨⟨a0⟩⟩ x6).1 : Int) == 95)) == false) (.int .i32 ((Utf8.decode ⟨⟨a0⟩⟩ x6).1 : Int))), (27, .whn ((cond (chars_letter ((Utf8.decode ⟨⟨a0⟩⟩ x6).1 : Int)) true (((Utf8.decode ⟨⟨a0⟩⟩ x6).1 : Int) == 95)) == false) (.bool (chars_digit ((Utf8.decode ⟨⟨a0⟩⟩ x6).1 : Int))))] 0 33, [.iter a0 (x6 + (Utf8.decode ⟨⟨a0⟩⟩ x6).2)], [], []⟩) (by kernel_rfl) fk42 (by kernel_rfl) (by kernel_rfl) (by kernel_rfl) (by kernel_rfl) (fun hg => ⟨⟨⟨hg, trivial⟩, trivial⟩, chars_digit_ok ((Utf8.decode ⟨⟨a0⟩⟩ x6).1 : Int) (chars_digit ((Utf8.decode ⟨⟨a0⟩⟩ x6).1 : Int)) rfl⟩) (by kernel_rfl) ?_
            refine AOps.runK [14, 32] 5 (tg := []) (H := []) (st' := ⟨sp [(14, .ptr true 0 0), (32, .bool (cond (cond (chars_letter ((Utf8.decode ⟨⟨a0⟩⟩ x6).1 : Int)) true (((Utf8.decode ⟨⟨a0⟩⟩ x6).1 : Int) == 95)) true (cond (chars_digit ((Utf8.decode ⟨⟨a0⟩⟩ x6).1 : Int)) (decide (0 < (x6 : Int))) false)))] 0 33, [.iter a0 (x6 + (Utf8.decode ⟨⟨a0⟩⟩ x6).2)], [], []⟩) (ob := ((((cond (chars_letter ((Utf8.decode ⟨⟨a0⟩⟩ x6).1 : Int)) true (((Utf8.decode ⟨⟨a0⟩⟩ x6).1 : Int) == 95)) == false) = true → True) ∧ (((((cond (chars_letter ((Utf8.decode ⟨⟨a0⟩⟩ x6).1 : Int)) true (((Utf8.decode ⟨⟨a0⟩⟩ x6).1 : Int) == 95)) == false) && (((cond (chars_letter ((Utf8.decode ⟨⟨a0⟩⟩ x6).1 : Int)) true (((Utf8.decode ⟨⟨a0⟩⟩ x6).1 : Int) == 95)) == false) && ((chars_digit ((Utf8.decode ⟨⟨a0⟩⟩ x6).1 : Int)) == true))) = true → True) ∧ (((((cond (chars_letter ((Utf8.decode ⟨⟨a0⟩⟩ x6).1 : Int)) true (((Utf8.decode ⟨⟨a0⟩⟩ x6).1 : Int) == 95)) == false) && (((cond (chars_letter ((Utf8.decode ⟨⟨a0⟩⟩ x6).1 : Int)) true (((Utf8.decode ⟨⟨a0⟩⟩ x6).1 : Int) == 95)) == false) && ((chars_digit ((Utf8.decode ⟨⟨a0⟩⟩ x6).1 : Int)) == true))) = true → ((((((cond (chars_letter ((Utf8.decode ⟨⟨a0⟩⟩ x6).1 : Int)) true (((Utf8.decode ⟨⟨a0⟩⟩ x6).1 : Int) == 95)) == false) && (((cond (chars_letter ((Utf8.decode ⟨⟨a0⟩⟩ x6).1 : Int)) true (((Utf8.decode ⟨⟨a0⟩⟩ x6).1 : Int) == 95)) == false) && ((chars_digit ((Utf8.decode ⟨⟨a0⟩⟩ x6).1 : Int)) == true))) = true) ∧ True) ∧ (True ∧ (IntKind.i64 = IntKind.i64)))) ∧ ((((cond (chars_letter ((Utf8.decode ⟨⟨a0⟩⟩ x6).1 : Int)) true (((Utf8.decode ⟨⟨a0⟩⟩ x6).1 : Int) == 95)) == false) = true → (((((cond (chars_letter ((Utf8.decode ⟨⟨a0⟩⟩ x6).1 : Int)) true (((Utf8.decode ⟨⟨a0⟩⟩ x6).1 : Int) == 95)) == false) = true) ∧ ((((cond (chars_letter ((Utf8.decode ⟨⟨a0⟩⟩ x6).1 : Int)) true (((Utf8.decode ⟨⟨a0⟩⟩ x6).1 : Int) == 95)) == false) = true) ∧ True)) ∧ (((chars_digit ((Utf8.decode ⟨⟨a0⟩⟩ x6).1 : Int)) = true → (((((cond (chars_letter ((Utf8.decode ⟨⟨a0⟩⟩ x6).1 : Int)) true (((Utf8.decode ⟨⟨a0⟩⟩ x6).1 : Int) == 95)) == false) && (((cond (chars_letter ((Utf8.decode ⟨⟨a0⟩⟩ x6).1 : Int)) true (((Utf8.decode ⟨⟨a0⟩⟩ x6).1 : Int) == 95)) == false) && ((chars_digit ((Utf8.decode ⟨⟨a0⟩⟩ x6).1 : Int)) == true))) = true) ∧ True)) ∧ ((chars_digit ((Utf8.decode ⟨⟨a0⟩⟩ x6).1 : Int)) = false → True)))) ∧ ((True ∧ (((cond (chars_letter ((Utf8.decode ⟨⟨a0⟩⟩ x6).1 : Int)) true (((Utf8.decode ⟨⟨a0⟩⟩ x6).1 : Int) == 95)) = true → True) ∧ ((cond (chars_letter ((Utf8.decode ⟨⟨a0⟩⟩ x6).1 : Int)) true (((Utf8.decode ⟨⟨a0⟩⟩ x6).1 : Int) == 95)) = false → ((((cond (chars_letter ((Utf8.decode ⟨⟨a0⟩⟩ x6).1 : Int)) true (((Utf8.decode ⟨⟨a0⟩⟩ x6).1 : Int) == 95)) == false) = true) ∧ True)))) ∧ True)))))) (by kernel_rfl) ⟨(fun hg0 => trivial), ⟨(fun hg0 => trivial), ⟨(fun hg0 => ⟨⟨hg0, trivial⟩, ⟨trivial, rfl⟩⟩), ⟨(fun hg0 => ⟨⟨hg0, ⟨hg0, trivial⟩⟩, ⟨(fun hg1 => ⟨(andI hg0 (andI hg0 (beqT hg1))), trivial⟩), (fun hg1 => trivial)⟩⟩), ⟨⟨trivial, ⟨(fun hg0 => trivial), (fun hg0 => ⟨(beqF hg0), trivial⟩)⟩⟩, trivial⟩⟩⟩⟩⟩ ?_
            refine AOps.done ?_
            refine AWp.cond (b := cond (cond (chars_letter ((Utf8.decode ⟨⟨a0⟩⟩ x6).1 : Int)) true (((Utf8.decode ⟨⟨a0⟩⟩ x6).1 : Int) == 95)) true (cond (chars_digit ((Utf8.decode ⟨⟨a0⟩⟩ x6).1 : Int)) (decide (0 < (x6 : Int))) false)) (by kernel_rfl) trivial (fun c12 => ?_) (fun c12 => ?_)
            · have h := cond_t c12 h
              refine AWp.exit ?_
              exact ⟨⟨(n7, x6 + (Utf8.decode ⟨⟨a0⟩⟩ x6).2), h⟩, Nat.lt_succ_self _, ⟨⟨.inl rfl, ⟨.inl rfl, ⟨.inl rfl, ⟨.inl rfl, ⟨.inl rfl, ⟨.inl rfl, ⟨.inl rfl, ⟨.inl rfl, ⟨.inl rfl, ⟨.inl rfl, ⟨.inl rfl, ⟨.inl rfl, ⟨.inl rfl, ⟨.inl rfl, ⟨.inr ⟨rfl, rfl⟩, ⟨.inl rfl, ⟨.inl rfl, ⟨.inl rfl, ⟨.inl rfl, ⟨.inl rfl, ⟨.inl rfl, ⟨.inl rfl, ⟨.inl rfl, ⟨.inl rfl, ⟨.inl rfl, ⟨.inl rfl, ⟨.inl rfl, ⟨.inl rfl, ⟨.inl rfl, ⟨.inl rfl, ⟨.inl rfl, ⟨.inl rfl, ⟨.inl rfl, trivial⟩⟩⟩⟩⟩⟩⟩⟩⟩⟩⟩⟩⟩⟩⟩⟩⟩⟩⟩⟩⟩⟩⟩⟩⟩⟩⟩⟩⟩⟩⟩⟩⟩, rfl, rfl, rfl, ⟨_, .slnil, (.refl _)⟩, rfl⟩⟩
            · have h := cond_f c12 h
              refine AWp.skip ?_
              refine AWp.seqX [2] (tg := []) (H := []) (st' := ⟨sp [(2, .bool false)] 0 33, [.iter a0 (x6 + (Utf8.decode ⟨⟨a0⟩⟩ x6).2)], [], []⟩) (ob := (True ∧ True)) (by kernel_rfl) ⟨trivial, trivial⟩ ?_
              refine AWp.ret ?_
              have h := jk_some h k5
              obtain rfl := Option.some.inj h
              exact ⟨[.bool false], (True ∧ True), by kernel_rfl, ⟨trivial, trivial⟩, by kernel_rfl, ⟨rfl, rfl, rfl⟩⟩
          · cases c9
        · have h := cond_f (decide_eq_false c8) h
          refine AOps.nextOver (r := 0) (p := x6) (l := a0) (st' := ⟨sp [(14, .ptr true 0 0), (15, .tuple [.bool false])] 0 33, [.iter a0 x6], [], []⟩) (by kernel_rfl) (by kernel_rfl) c8 (by kernel_rfl) ?_
          refine AOps.runK [14, 15, 16] 1 (tg := []) (H := []) (st' := ⟨sp [(14, .ptr true 0 0), (15, .tuple [.bool false]), (16, .bool false)] 0 33, [.iter a0 x6], [], []⟩) (ob := ((True ∧ (0 < 1)) ∧ True)) (by kernel_rfl) ⟨⟨trivial, (by decide)⟩, trivial⟩ ?_
          refine AOps.done ?_
          refine AWp.seq ?_
          refine AWp.cond (b := false) (by kernel_rfl) trivial (fun c13 => ?_) (fun c13 => ?_)
          · cases c13
          · skip
            refine AWp.exit ?_
            obtain rfl := Option.some.inj h
            exact ⟨_, rfl, ⟨⟨.inl rfl, ⟨.inl rfl, ⟨.inl rfl, ⟨.inl rfl, ⟨.inl rfl, ⟨.inl rfl, ⟨.inl rfl, ⟨.inl rfl, ⟨.inl rfl, ⟨.inl rfl, ⟨.inl rfl, ⟨.inl rfl, ⟨.inl rfl, ⟨.inl rfl, ⟨.inl rfl, ⟨.inl rfl, ⟨.inl rfl, ⟨.inl rfl, ⟨.inl rfl, ⟨.inl rfl, ⟨.inl rfl, ⟨.inl rfl, ⟨.inl rfl, ⟨.inl rfl, ⟨.inl rfl, ⟨.inl rfl, ⟨.inl rfl, ⟨.inl rfl, ⟨.inl rfl, ⟨.inl rfl, ⟨.inl rfl, ⟨.inl rfl, ⟨.inl rfl, trivial⟩⟩⟩⟩⟩⟩⟩⟩⟩⟩⟩⟩⟩⟩⟩⟩⟩⟩⟩⟩⟩⟩⟩⟩⟩⟩⟩⟩⟩⟩⟩⟩⟩, rfl, rfl, rfl, ⟨_, .slnil, (.refl _)⟩, rfl⟩⟩
    · intro s2 s2h
      have h := jk_go s2h k5
      refine AWp.seqX [2] (tg := []) (H := []) (st' := ⟨sp [(2, .bool true)] 0 33, [.iter a0 s2], [], []⟩) (ob := (True ∧ True)) (by kernel_rfl) ⟨trivial, trivial⟩ ?_
      refine AWp.ret ?_
      obtain rfl := Option.some.inj h
      exact ⟨[.bool true], (True ∧ True), by kernel_rfl, ⟨trivial, trivial⟩, by kernel_rfl, ⟨rfl, rfl, rfl⟩⟩
def law15_short (a0 : List UInt8) : Bool :=
  cond (decide ((a0.length : Int) ≤ 60)) true (decide (4096 < (a0.length : Int)))
theorem law15_short_ok (a0 : List UInt8) (r : Bool) (h : law15_short a0 = r) : ACalls Try.prog 16 [.str a0] [] (fun q => q = ⟨.bool r, [], [], []⟩) := by
  unfold law15_short at h
  refine ACalls.noown ?_
  refine ACalls.intro (fn := Try.f16) Try.func16 rfl ?_
  refine AWp.keep [0] (st' := ⟨sp [(0, .str a0)] 0 11, [], [], []⟩) (by kernel_rfl) ?_
  refine AWp.seqX [0] (tg := []) (H := []) (st' := ⟨sp [(0, .str a0)] 0 11, [], [], []⟩) (ob := (True ∧ True)) (by kernel_rfl) ⟨trivial, trivial⟩ ?_
  refine AWp.seqX [2] (tg := [2, 10]) (H := []) (st' := ⟨sp [(2, .bool (cond (decide ((a0.length : Int) ≤ 60)) true (decide (4096 < (a0.length : Int)))))] 0 11, [], [], []⟩) (ob := (True ∧ ((True ∧ True) ∧ ((True ∧ (True ∧ (IntKind.i64 = IntKind.i64))) ∧ (True ∧ ((((decide ((a0.length : Int) ≤ 60)) == false) = true → True) ∧ ((((decide ((a0.length : Int) ≤ 60)) == false) = true → (((((decide ((a0.length : Int) ≤ 60)) == false) = true) ∧ True) ∧ True)) ∧ ((((decide ((a0.length : Int) ≤ 60)) == false) = true → (((((decide ((a0.length : Int) ≤ 60)) == false) = true) ∧ True) ∧ (True ∧ (IntKind.i64 = IntKind.i64)))) ∧ ((True ∧ (((decide ((a0.length : Int) ≤ 60)) = true → True) ∧ ((decide ((a0.length : Int) ≤ 60)) = false → ((((decide ((a0.length : Int) ≤ 60)) == false) = true) ∧ True)))) ∧ (True ∧ True)))))))))) (by kernel_rfl) ⟨trivial, ⟨⟨trivial, trivial⟩, ⟨⟨trivial, ⟨trivial, rfl⟩⟩, ⟨trivial, ⟨(fun hg0 => trivial), ⟨(fun hg0 => ⟨⟨hg0, trivial⟩, trivial⟩), ⟨(fun hg0 => ⟨⟨hg0, trivial⟩, ⟨trivial, rfl⟩⟩), ⟨⟨trivial, ⟨(fun hg0 => trivial), (fun hg0 => ⟨(beqF hg0), trivial⟩)⟩⟩, ⟨trivial, trivial⟩⟩⟩⟩⟩⟩⟩⟩⟩ ?_
  refine AWp.ret ?_
  obtain rfl := h
  exact ⟨[.bool (cond (decide ((a0.length : Int) ≤ 60)) true (decide (4096 < (a0.length : Int))))], (True ∧ True), by kernel_rfl, ⟨trivial, trivial⟩, by kernel_rfl, ⟨rfl, rfl, rfl⟩⟩
def ref15_Small_l0_b (a0 : List TVar) (n6 : Nat) (recref15_Small_l0 : Int → Option (J Unit Bool)) (x5 : Int) : Option (J Unit Bool) :=
  cond (cond (decide (x5 < (a0.length : Int))) (decide (x5 ≤ 130)) false) (
    req (((0 : Int) ≤ x5) ∧ (x5 < (a0.length : Int))) (
      cond (cond (decide (60 < (((a0.getD (x5 : Int).toNat default).fName).length : Int))) true (cond (decide (60 < (((a0.getD (x5 : Int).toNat default).fValue).length : Int))) (decide ((((a0.getD (x5 : Int).toNat default).fValue).length : Int) ≤ 4096)) false)) (
        some (J.ret false)) (
        recref15_Small_l0 (IntKind.i64.wrap (x5 + 1))))) (
    some (J.go ()))
def ref15_Small_l0 (a0 : List TVar) : Nat → Int → Option (J Unit Bool)
  | 0, _ => none
  | n + 1, x => ref15_Small_l0_b a0 n (ref15_Small_l0 a0 n) x
def ref15_Small (fuel : Nat) (a0 : List TVar) : Option Bool :=
  jn (ref15_Small_l0 a0 fuel (0 : Int)) (fun s1 =>
    some (decide ((a0.length : Int) ≤ 130)))
theorem ref15_Small_ok (fuel : Nat) (a0 : List TVar) (r : Bool) (h : ref15_Small fuel a0 = some r) : ACalls Try.prog 10 [.slice 5 (a0.map encTVar)] [] (fun q => q = ⟨.bool r, [], [], []⟩) := by
  unfold ref15_Small at h
  refine ACalls.noown ?_
  refine ACalls.intro (fn := Try.f10) Try.func10 rfl ?_
  refine AWp.keep [0] (st' := ⟨sp [(0, .slice 5 (a0.map encTVar))] 0 42, [], [], []⟩) (by kernel_rfl) ?_
  refine AWp.seqX [0] (tg := []) (H := []) (st' := ⟨sp [(0, .slice 5 (a0.map encTVar))] 0 42, [], [], []⟩) (ob := (True ∧ True)) (by kernel_rfl) ⟨trivial, trivial⟩ ?_
  obtain ⟨j3, e2, k4⟩ := jn_some h
  refine AWp.seqSum (σ := Unit) (fun s1 => ⟨sp [(0, .slice 5 (a0.map encTVar))] 0 42, [], [], []⟩) (fun s1 => j3 = .go s1) ?_ ?_
  ·
    refine AWp.seqX [0, 3] (tg := []) (H := []) (st' := ⟨sp [(0, .slice 5 (a0.map encTVar)), (3, .int .i64 0)] 0 42, [], [], []⟩) (ob := (True ∧ True)) (by kernel_rfl) ⟨trivial, trivial⟩ ?_
    refine AWp.block ?_
    refine AWp.loop (ι := {p : Nat × (Int) // ref15_Small_l0 a0 p.1 p.2 = some _}) (fun p => ⟨sp [(0, .slice 5 (a0.map encTVar)), (3, .int .i64 p.1.2)] 0 42, [], [], []⟩) (fun p => p.1.1) ⟨(fuel, (0 : Int)), e2⟩ ⟨⟨.inr ⟨rfl, rfl⟩, ⟨.inl rfl, ⟨.inl rfl, ⟨.inr ⟨rfl, rfl⟩, ⟨.inl rfl, ⟨.inl rfl, ⟨.inl rfl, ⟨.inl rfl, ⟨.inl rfl, ⟨.inl rfl, ⟨.inl rfl, ⟨.inl rfl, ⟨.inl rfl, ⟨.inl rfl, ⟨.inl rfl, ⟨.inl rfl, ⟨.inl rfl, ⟨.inl rfl, ⟨.inl rfl, ⟨.inl rfl, ⟨.inl rfl, ⟨.inl rfl, ⟨.inl rfl, ⟨.inl rfl, ⟨.inl rfl, ⟨.inl rfl, ⟨.inl rfl, ⟨.inl rfl, ⟨.inl rfl, ⟨.inl rfl, ⟨.inl rfl, ⟨.inl rfl, ⟨.inl rfl, ⟨.inl rfl, ⟨.inl rfl, ⟨.inl rfl, ⟨.inl rfl, ⟨.inl rfl, ⟨.inl rfl, ⟨.inl rfl, ⟨.inl rfl, ⟨.inl rfl, trivial⟩⟩⟩⟩⟩⟩⟩⟩⟩⟩⟩⟩⟩⟩⟩⟩⟩⟩⟩⟩⟩⟩⟩⟩⟩⟩⟩⟩⟩⟩⟩⟩⟩⟩⟩⟩⟩⟩⟩⟩⟩⟩, rfl, rfl, rfl, ⟨_, .slnil, (.refl _)⟩, rfl⟩ ?_
    rintro ⟨⟨n6, x5⟩, h⟩
    cases n6 with
    | zero => cases h
    | succ n6 =>
      replace h : ref15_Small_l0_b a0 n6 (ref15_Small_l0 a0 n6) x5 = some _ := h
      unfold ref15_Small_l0_b at h
      refine AWp.seq ?_
      refine AWp.seqX [0, 3, 11] (tg := []) (H := [(6, .int .i64 (a0.length : Int))]) (st' := ⟨sp [(0, .slice 5 (a0.map encTVar)), (3, .int .i64 x5), (11, .bool (cond (decide (x5 < (a0.length : Int))) (decide (x5 ≤ 130)) false))] 0 42, [], [], []⟩) (ob := (True ∧ (True ∧ (((True ∧ True) ∧ ((.int .i64 ((a0.map encTVar).length : Int) : DV) = .int .i64 (a0.length : Int))) ∧ ((True ∧ (True ∧ (IntKind.i64 = IntKind.i64))) ∧ (True ∧ ((((decide (x5 < (a0.length : Int))) == true) = true → True) ∧ ((((decide (x5 < (a0.length : Int))) == true) = true → (((((decide (x5 < (a0.length : Int))) == true) = true) ∧ True) ∧ (True ∧ (IntKind.i64 = IntKind.i64)))) ∧ ((True ∧ (((decide (x5 < (a0.length : Int))) = true → ((((decide (x5 < (a0.length : Int))) == true) = true) ∧ True)) ∧ ((decide (x5 < (a0.length : Int))) = false → True))) ∧ True))))))))) (by kernel_rfl) ⟨trivial, ⟨trivial, ⟨⟨⟨trivial, trivial⟩, (congrArg (fun n : Nat => DV.int .i64 n) (List.length_map _))⟩, ⟨⟨trivial, ⟨trivial, rfl⟩⟩, ⟨trivial, ⟨(fun hg0 => trivial), ⟨(fun hg0 => ⟨⟨hg0, trivial⟩, ⟨trivial, rfl⟩⟩), ⟨⟨trivial, ⟨(fun hg0 => ⟨(beqT hg0), trivial⟩), (fun hg0 => trivial)⟩⟩, trivial⟩⟩⟩⟩⟩⟩⟩⟩ ?_
      refine AWp.cond (b := cond (decide (x5 < (a0.length : Int))) (decide (x5 ≤ 130)) false) (by kernel_rfl) trivial (fun c7 => ?_) (fun c7 => ?_)
      · have h := cond_t c7 h
        refine AWp.skip ?_
        refine AWp.seq ?_
        refine AWp.block ?_
        obtain ⟨⟨o8, o9⟩, h⟩ := req_some h
        refine AWp.seqX [0, 3, 38] (tg := []) (H := [(16, .cptr [.str ((a0.getD (x5 : Int).toNat default).fName), .str ((a0.getD (x5 : Int).toNat default).fValue), .bool ((a0.getD (x5 : Int).toNat default).fSet), .bool ((a0.getD (x5 : Int).toNat default).fExport), .bool ((a0.getD (x5 : Int).toNat default).fReadonly)] 0), (24, .cptr [.str ((a0.getD (x5 : Int).toNat default).fName), .str ((a0.getD (x5 : Int).toNat default).fValue), .bool ((a0.getD (x5 : Int).toNat default).fSet), .bool ((a0.getD (x5 : Int).toNat default).fExport), .bool ((a0.getD (x5 : Int).toNat default).fReadonly)] 0), (32, .cptr [.str ((a0.getD (x5 : Int).toNat default).fName), .str ((a0.getD (x5 : Int).toNat default).fValue), .bool ((a0.getD (x5 : Int).toNat default).fSet), .bool ((a0.getD (x5 : Int).toNat default).fExport), .bool ((a0.getD (x5 : Int).toNat default).fReadonly)] 0)]) (st' := ⟨sp [(0, .slice 5 (a0.map encTVar)), (3, .int .i64 x5), (38, .bool (cond (decide (60 < (((a0.getD (x5 : Int).toNat default).fName).length : Int))) true (cond (decide (60 < (((a0.getD (x5 : Int).toNat default).fValue).length : Int))) (decide ((((a0.getD (x5 : Int).toNat default).fValue).length : Int) ≤ 4096)) false)))] 0 42, [], [], []⟩) (ob := (True ∧ (True ∧ (((True ∧ (True ∧ (((0 : Int) ≤ x5) ∧ ((x5 < ((a0.map encTVar).length : Int)) ∧ (5 = 5))))) ∧ ((.cptr ((a0.map encTVar).getD (x5 : Int).toNat []) 0 : DV) = .cptr [.str ((a0.getD (x5 : Int).toNat default).fName), .str ((a0.getD (x5 : Int).toNat default).fValue), .bool ((a0.getD (x5 : Int).toNat default).fSet), .bool ((a0.getD (x5 : Int).toNat default).fExport), .bool ((a0.getD (x5 : Int).toNat default).fReadonly)] 0)) ∧ ((True ∧ (1 ≠ 0)) ∧ ((True ∧ (0 < 5)) ∧ ((True ∧ True) ∧ ((True ∧ (True ∧ (IntKind.i64 = IntKind.i64))) ∧ (True ∧ ((((decide (60 < (((a0.getD (x5 : Int).toNat default).fName).length : Int))) == false) = true → True) ∧ ((((decide (60 < (((a0.getD (x5 : Int).toNat default).fName).length : Int))) == false) = true → True) ∧ ((((decide (60 < (((a0.getD (x5 : Int).toNat default).fName).length : Int))) == false) = true → ((((((decide (60 < (((a0.getD (x5 : Int).toNat default).fName).length : Int))) == false) = true) ∧ True) ∧ (((((decide (60 < (((a0.getD (x5 : Int).toNat default).fName).length : Int))) == false) = true) ∧ True) ∧ (((0 : Int) ≤ x5) ∧ ((x5 < ((a0.map encTVar).length : Int)) ∧ (5 = 5))))) ∧ ((.cptr ((a0.map encTVar).getD (x5 : Int).toNat []) 0 : DV) = .cptr [.str ((a0.getD (x5 : Int).toNat default).fName), .str ((a0.getD (x5 : Int).toNat default).fValue), .bool ((a0.getD (x5 : Int).toNat default).fSet), .bool ((a0.getD (x5 : Int).toNat default).fExport), .bool ((a0.getD (x5 : Int).toNat default).fReadonly)] 0))) ∧ ((((decide (60 < (((a0.getD (x5 : Int).toNat default).fName).length : Int))) == false) = true → (((((decide (60 < (((a0.getD (x5 : Int).toNat default).fName).length : Int))) == false) = true) ∧ True) ∧ (1 ≠ 0))) ∧ ((((decide (60 < (((a0.getD (x5 : Int).toNat default).fName).length : Int))) == false) = true → (((((decide (60 < (((a0.getD (x5 : Int).toNat default).fName).length : Int))) == false) = true) ∧ True) ∧ (1 < 5))) ∧ ((((decide (60 < (((a0.getD (x5 : Int).toNat default).fName).length : Int))) == false) = true → (((((decide (60 < (((a0.getD (x5 : Int).toNat default).fName).length : Int))) == false) = true) ∧ True) ∧ True)) ∧ ((((decide (60 < (((a0.getD (x5 : Int).toNat default).fName).length : Int))) == false) = true → (((((decide (60 < (((a0.getD (x5 : Int).toNat default).fName).length : Int))) == false) = true) ∧ True) ∧ (True ∧ (IntKind.i64 = IntKind.i64)))) ∧ ((((decide (60 < (((a0.getD (x5 : Int).toNat default).fName).length : Int))) == false) = true → True) ∧ (((((decide (60 < (((a0.getD (x5 : Int).toNat default).fName).length : Int))) == false) && (((decide (60 < (((a0.getD (x5 : Int).toNat default).fName).length : Int))) == false) && ((decide (60 < (((a0.getD (x5 : Int).toNat default).fValue).length : Int))) == true))) = true → True) ∧ (((((decide (60 < (((a0.getD (x5 : Int).toNat default).fName).length : Int))) == false) && (((decide (60 < (((a0.getD (x5 : Int).toNat default).fName).length : Int))) == false) && ((decide (60 < (((a0.getD (x5 : Int).toNat default).fValue).length : Int))) == true))) = true → True) ∧ (((((decide (60 < (((a0.getD (x5 : Int).toNat default).fName).length : Int))) == false) && (((decide (60 < (((a0.getD (x5 : Int).toNat default).fName).length : Int))) == false) && ((decide (60 < (((a0.getD (x5 : Int).toNat default).fValue).length : Int))) == true))) = true → (((((((decide (60 < (((a0.getD (x5 : Int).toNat default).fName).length : Int))) == false) && (((decide (60 < (((a0.getD (x5 : Int).toNat default).fName).length : Int))) == false) && ((decide (60 < (((a0.getD (x5 : Int).toNat default).fValue).length : Int))) == true))) = true) ∧ True) ∧ ((((((decide (60 < (((a0.getD (x5 : Int).toNat default).fName).length : Int))) == false) && (((decide (60 < (((a0.getD (x5 : Int).toNat default).fName).length : Int))) == false) && ((decide (60 < (((a0.getD (x5 : Int).toNat default).fValue).length : Int))) == true))) = true) ∧ True) ∧ (((0 : Int) ≤ x5) ∧ ((x5 < ((a0.map encTVar).length : Int)) ∧ (5 = 5))))) ∧ ((.cptr ((a0.map encTVar).getD (x5 : Int).toNat []) 0 : DV) = .cptr [.str ((a0.getD (x5 : Int).toNat default).fName), .str ((a0.getD (x5 : Int).toNat default).fValue), .bool ((a0.getD (x5 : Int).toNat default).fSet), .bool ((a0.getD (x5 : Int).toNat default).fExport), .bool ((a0.getD (x5 : Int).toNat default).fReadonly)] 0))) ∧ (((((decide (60 < (((a0.getD (x5 : Int).toNat default).fName).length : Int))) == false) && (((decide (60 < (((a0.getD (x5 : Int).toNat default).fName).length : Int))) == false) && ((decide (60 < (((a0.getD (x5 : Int).toNat default).fValue).length : Int))) == true))) = true → ((((((decide (60 < (((a0.getD (x5 : Int).toNat default).fName).length : Int))) == false) && (((decide (60 < (((a0.getD (x5 : Int).toNat default).fName).length : Int))) == false) && ((decide (60 < (((a0.getD (x5 : Int).toNat default).fValue).length : Int))) == true))) = true) ∧ True) ∧ (1 ≠ 0))) ∧ (((((decide (60 < (((a0.getD (x5 : Int).toNat default).fName).length : Int))) == false) && (((decide (60 < (((a0.getD (x5 : Int).toNat default).fName).length : Int))) == false) && ((decide (60 < (((a0.getD (x5 : Int).toNat default).fValue).length : Int))) == true))) = true → ((((((decide (60 < (((a0.getD (x5 : Int).toNat default).fName).length : Int))) == false) && (((decide (60 < (((a0.getD (x5 : Int).toNat default).fName).length : Int))) == false) && ((decide (60 < (((a0.getD (x5 : Int).toNat default).fValue).length : Int))) == true))) = true) ∧ True) ∧ (1 < 5))) ∧ (((((decide (60 < (((a0.getD (x5 : Int).toNat default).fName).length : Int))) == false) && (((decide (60 < (((a0.getD (x5 : Int).toNat default).fName).length : Int))) == false) && ((decide (60 < (((a0.getD (x5 : Int).toNat default).fValue).length : Int))) == true))) = true → ((((((decide (60 < (((a0.getD (x5 : Int).toNat default).fName).length : Int))) == false) && (((decide (60 < (((a0.getD (x5 : Int).toNat default).fName).length : Int))) == false) && ((decide (60 < (((a0.getD (x5 : Int).toNat default).fValue).length : Int))) == true))) = true) ∧ True) ∧ True)) ∧ (((((decide (60 < (((a0.getD (x5 : Int).toNat default).fName).length : Int))) == false) && (((decide (60 < (((a0.getD (x5 : Int).toNat default).fName).length : Int))) == false) && ((decide (60 < (((a0.getD (x5 : Int).toNat default).fValue).length : Int))) == true))) = true → ((((((decide (60 < (((a0.getD (x5 : Int).toNat default).fName).length : Int))) == false) && (((decide (60 < (((a0.getD (x5 : Int).toNat default).fName).length : Int))) == false) && ((decide (60 < (((a0.getD (x5 : Int).toNat default).fValue).length : Int))) == true))) = true) ∧ True) ∧ (True ∧ (IntKind.i64 = IntKind.i64)))) ∧ ((((decide (60 < (((a0.getD (x5 : Int).toNat default).fName).length : Int))) == false) = true → (((((decide (60 < (((a0.getD (x5 : Int).toNat default).fName).length : Int))) == false) = true) ∧ ((((decide (60 < (((a0.getD (x5 : Int).toNat default).fName).length : Int))) == false) = true) ∧ True)) ∧ (((decide (60 < (((a0.getD (x5 : Int).toNat default).fValue).length : Int))) = true → (((((decide (60 < (((a0.getD (x5 : Int).toNat default).fName).length : Int))) == false) && (((decide (60 < (((a0.getD (x5 : Int).toNat default).fName).length : Int))) == false) && ((decide (60 < (((a0.getD (x5 : Int).toNat default).fValue).length : Int))) == true))) = true) ∧ True)) ∧ ((decide (60 < (((a0.getD (x5 : Int).toNat default).fValue).length : Int))) = false → True)))) ∧ ((True ∧ (((decide (60 < (((a0.getD (x5 : Int).toNat default).fName).length : Int))) = true → True) ∧ ((decide (60 < (((a0.getD (x5 : Int).toNat default).fName).length : Int))) = false → ((((decide (60 < (((a0.getD (x5 : Int).toNat default).fName).length : Int))) == false) = true) ∧ True)))) ∧ True)))))))))))))))))))))))))) (by kernel_rfl) ⟨trivial, ⟨trivial, ⟨⟨⟨trivial, ⟨trivial, ⟨o8, ⟨(lt_map o9), rfl⟩⟩⟩⟩, (congrArg (fun c => DV.cptr c 0) (getD_encI encTVar a0 (x5 : Int) o8 o9))⟩, ⟨⟨trivial, (by decide)⟩, ⟨⟨trivial, (by decide)⟩, ⟨⟨trivial, trivial⟩, ⟨⟨trivial, ⟨trivial, rfl⟩⟩, ⟨trivial, ⟨(fun hg0 => trivial), ⟨(fun hg0 => trivial), ⟨(fun hg0 => ⟨⟨⟨hg0, trivial⟩, ⟨⟨hg0, trivial⟩, ⟨((fun _ => o8) hg0), ⟨(lt_map ((fun _ => o9) hg0)), rfl⟩⟩⟩⟩, (congrArg (fun c => DV.cptr c 0) (getD_encI encTVar a0 (x5 : Int) ((fun _ => o8) hg0) ((fun _ => o9) hg0)))⟩), ⟨(fun hg0 => ⟨⟨hg0, trivial⟩, (by decide)⟩), ⟨(fun hg0 => ⟨⟨hg0, trivial⟩, (by decide)⟩), ⟨(fun hg0 => ⟨⟨hg0, trivial⟩, trivial⟩), ⟨(fun hg0 => ⟨⟨hg0, trivial⟩, ⟨trivial, rfl⟩⟩), ⟨(fun hg0 => trivial), ⟨(fun hg0 => trivial), ⟨(fun hg0 => trivial), ⟨(fun hg0 => ⟨⟨⟨hg0, trivial⟩, ⟨⟨hg0, trivial⟩, ⟨((fun _ => o8) hg0), ⟨(lt_map ((fun _ => o9) hg0)), rfl⟩⟩⟩⟩, (congrArg (fun c => DV.cptr c 0) (getD_encI encTVar a0 (x5 : Int) ((fun _ => o8) hg0) ((fun _ => o9) hg0)))⟩), ⟨(fun hg0 => ⟨⟨hg0, trivial⟩, (by decide)⟩), ⟨(fun hg0 => ⟨⟨hg0, trivial⟩, (by decide)⟩), ⟨(fun hg0 => ⟨⟨hg0, trivial⟩, trivial⟩), ⟨(fun hg0 => ⟨⟨hg0, trivial⟩, ⟨trivial, rfl⟩⟩), ⟨(fun hg0 => ⟨⟨hg0, ⟨hg0, trivial⟩⟩, ⟨(fun hg1 => ⟨(andI hg0 (andI hg0 (beqT hg1))), trivial⟩), (fun hg1 => trivial)⟩⟩), ⟨⟨trivial, ⟨(fun hg0 => trivial), (fun hg0 => ⟨(beqF hg0), trivial⟩)⟩⟩, trivial⟩⟩⟩⟩⟩⟩⟩⟩⟩⟩⟩⟩⟩⟩⟩⟩⟩⟩⟩⟩⟩⟩⟩⟩⟩ ?_
        refine AWp.cond (b := cond (decide (60 < (((a0.getD (x5 : Int).toNat default).fName).length : Int))) true (cond (decide (60 < (((a0.getD (x5 : Int).toNat default).fValue).length : Int))) (decide ((((a0.getD (x5 : Int).toNat default).fValue).length : Int) ≤ 4096)) false)) (by kernel_rfl) trivial (fun c10 => ?_) (fun c10 => ?_)
        · have h := cond_t c10 h
          refine AWp.seqX [2] (tg := []) (H := []) (st' := ⟨sp [(2, .bool false)] 0 42, [], [], []⟩) (ob := (True ∧ True)) (by kernel_rfl) ⟨trivial, trivial⟩ ?_
          refine AWp.ret ?_
          have h := jk_some h k4
          obtain rfl := Option.some.inj h
          exact ⟨[.bool false], (True ∧ True), by kernel_rfl, ⟨trivial, trivial⟩, by kernel_rfl, ⟨rfl, rfl, rfl⟩⟩
        · have h := cond_f c10 h
          refine AWp.skip ?_
          refine AWp.tailN [0, 3] [] (tg := [3, 13]) (H := []) (st' := ⟨sp [(0, .slice 5 (a0.map encTVar)), (3, .int .i64 (IntKind.i64.wrap (x5 + 1)))] 0 42, [], [], []⟩) (ob := (True ∧ ((True ∧ (True ∧ (IntKind.i64 = IntKind.i64))) ∧ (True ∧ True)))) (by kernel_rfl) ⟨trivial, ⟨⟨trivial, ⟨trivial, rfl⟩⟩, ⟨trivial, trivial⟩⟩⟩ ?_
          exact ⟨⟨(n6, IntKind.i64.wrap (x5 + 1)), h⟩, Nat.lt_succ_self _, ⟨⟨.inr ⟨rfl, rfl⟩, ⟨.inl rfl, ⟨.inl rfl, ⟨.inr ⟨rfl, rfl⟩, ⟨.inl rfl, ⟨.inl rfl, ⟨.inl rfl, ⟨.inl rfl, ⟨.inl rfl, ⟨.inl rfl, ⟨.inl rfl, ⟨.inl rfl, ⟨.inl rfl, ⟨.inl rfl, ⟨.inl rfl, ⟨.inl rfl, ⟨.inl rfl, ⟨.inl rfl, ⟨.inl rfl, ⟨.inl rfl, ⟨.inl rfl, ⟨.inl rfl, ⟨.inl rfl, ⟨.inl rfl, ⟨.inl rfl, ⟨.inl rfl, ⟨.inl rfl, ⟨.inl rfl, ⟨.inl rfl, ⟨.inl rfl, ⟨.inl rfl, ⟨.inl rfl, ⟨.inl rfl, ⟨.inl rfl, ⟨.inl rfl, ⟨.inl rfl, ⟨.inl rfl, ⟨.inl rfl, ⟨.inl rfl, ⟨.inl rfl, ⟨.inl rfl, ⟨.inl rfl, trivial⟩⟩⟩⟩⟩⟩⟩⟩⟩⟩⟩⟩⟩⟩⟩⟩⟩⟩⟩⟩⟩⟩⟩⟩⟩⟩⟩⟩⟩⟩⟩⟩⟩⟩⟩⟩⟩⟩⟩⟩⟩⟩, rfl, rfl, rfl, ⟨_, .slnil, (.refl _)⟩, rfl⟩⟩
      · have h := cond_f c7 h
        refine AWp.exit ?_
        obtain rfl := Option.some.inj h
        exact ⟨_, rfl, ⟨⟨.inr ⟨rfl, rfl⟩, ⟨.inl rfl, ⟨.inl rfl, ⟨.inl rfl, ⟨.inl rfl, ⟨.inl rfl, ⟨.inl rfl, ⟨.inl rfl, ⟨.inl rfl, ⟨.inl rfl, ⟨.inl rfl, ⟨.inl rfl, ⟨.inl rfl, ⟨.inl rfl, ⟨.inl rfl, ⟨.inl rfl, ⟨.inl rfl, ⟨.inl rfl, ⟨.inl rfl, ⟨.inl rfl, ⟨.inl rfl, ⟨.inl rfl, ⟨.inl rfl, ⟨.inl rfl, ⟨.inl rfl, ⟨.inl rfl, ⟨.inl rfl, ⟨.inl rfl, ⟨.inl rfl, ⟨.inl rfl, ⟨.inl rfl, ⟨.inl rfl, ⟨.inl rfl, ⟨.inl rfl, ⟨.inl rfl, ⟨.inl rfl, ⟨.inl rfl, ⟨.inl rfl, ⟨.inl rfl, ⟨.inl rfl, ⟨.inl rfl, ⟨.inl rfl, trivial⟩⟩⟩⟩⟩⟩⟩⟩⟩⟩⟩⟩⟩⟩⟩⟩⟩⟩⟩⟩⟩⟩⟩⟩⟩⟩⟩⟩⟩⟩⟩⟩⟩⟩⟩⟩⟩⟩⟩⟩⟩⟩, rfl, rfl, rfl, ⟨_, .slnil, (.refl _)⟩, rfl⟩⟩
  · intro s1 s1h
    have h := jk_go s1h k4
    refine AWp.seqX [2] (tg := [2, 41]) (H := [(40, .int .i64 (a0.length : Int))]) (st' := ⟨sp [(2, .bool (decide ((a0.length : Int) ≤ 130)))] 0 42, [], [], []⟩) (ob := (True ∧ (((True ∧ True) ∧ ((.int .i64 ((a0.map encTVar).length : Int) : DV) = .int .i64 (a0.length : Int))) ∧ ((True ∧ (True ∧ (IntKind.i64 = IntKind.i64))) ∧ (True ∧ True))))) (by kernel_rfl) ⟨trivial, ⟨⟨⟨trivial, trivial⟩, (congrArg (fun n : Nat => DV.int .i64 n) (List.length_map _))⟩, ⟨⟨trivial, ⟨trivial, rfl⟩⟩, ⟨trivial, trivial⟩⟩⟩⟩ ?_
    refine AWp.ret ?_
    obtain rfl := Option.some.inj h
    exact ⟨[.bool (decide ((a0.length : Int) ≤ 130))], (True ∧ True), by kernel_rfl, ⟨trivial, trivial⟩, by kernel_rfl, ⟨rfl, rfl, rfl⟩⟩
def ref15_Few_l0_b (a0 : List (List UInt8)) (n6 : Nat) (recref15_Few_l0 : Int → Option (J Unit Bool)) (x5 : Int) : Option (J Unit Bool) :=
  cond (cond (decide (x5 < (a0.length : Int))) (decide (x5 ≤ 138)) false) (
    req (((0 : Int) ≤ x5) ∧ (x5 < (a0.length : Int))) (
      cond (cond (decide (60 < ((a0.getD (x5 : Int).toNat default).length : Int))) (decide (((a0.getD (x5 : Int).toNat default).length : Int) ≤ 4096)) false) (
        some (J.ret false)) (
        recref15_Few_l0 (IntKind.i64.wrap (x5 + 1))))) (
    some (J.go ()))
def ref15_Few_l0 (a0 : List (List UInt8)) : Nat → Int → Option (J Unit Bool)
  | 0, _ => none
  | n + 1, x => ref15_Few_l0_b a0 n (ref15_Few_l0 a0 n) x
def ref15_Few (fuel : Nat) (a0 : List (List UInt8)) : Option Bool :=
  jn (ref15_Few_l0 a0 fuel (0 : Int)) (fun s1 =>
    some (decide ((a0.length : Int) ≤ 138)))
theorem ref15_Few_ok (fuel : Nat) (a0 : List (List UInt8)) (r : Bool) (h : ref15_Few fuel a0 = some r) : ACalls Try.prog 22 [.slice 1 (a0.map ceS)] [] (fun q => q = ⟨.bool r, [], [], []⟩) := by
  unfold ref15_Few at h
  refine ACalls.noown ?_
  refine ACalls.intro (fn := Try.f22) Try.func22 rfl ?_
  refine AWp.keep [0] (st' := ⟨sp [(0, .slice 1 (a0.map ceS))] 0 31, [], [], []⟩) (by kernel_rfl) ?_
  refine AWp.seqX [0] (tg := []) (H := []) (st' := ⟨sp [(0, .slice 1 (a0.map ceS))] 0 31, [], [], []⟩) (ob := (True ∧ True)) (by kernel_rfl) ⟨trivial, trivial⟩ ?_
  obtain ⟨j3, e2, k4⟩ := jn_some h
  refine AWp.seqSum (σ := Unit) (fun s1 => ⟨sp [(0, .slice 1 (a0.map ceS))] 0 31, [], [], []⟩) (fun s1 => j3 = .go s1) ?_ ?_
  ·
    refine AWp.seqX [0, 3] (tg := []) (H := []) (st' := ⟨sp [(0, .slice 1 (a0.map ceS)), (3, .int .i64 0)] 0 31, [], [], []⟩) (ob := (True ∧ True)) (by kernel_rfl) ⟨trivial, trivial⟩ ?_
    refine AWp.block ?_
    refine AWp.loop (ι := {p : Nat × (Int) // ref15_Few_l0 a0 p.1 p.2 = some _}) (fun p => ⟨sp [(0, .slice 1 (a0.map ceS)), (3, .int .i64 p.1.2)] 0 31, [], [], []⟩) (fun p => p.1.1) ⟨(fuel, (0 : Int)), e2⟩ ⟨⟨.inr ⟨rfl, rfl⟩, ⟨.inl rfl, ⟨.inl rfl, ⟨.inr ⟨rfl, rfl⟩, ⟨.inl rfl, ⟨.inl rfl, ⟨.inl rfl, ⟨.inl rfl, ⟨.inl rfl, ⟨.inl rfl, ⟨.inl rfl, ⟨.inl rfl, ⟨.inl rfl, ⟨.inl rfl, ⟨.inl rfl, ⟨.inl rfl, ⟨.inl rfl, ⟨.inl rfl, ⟨.inl rfl, ⟨.inl rfl, ⟨.inl rfl, ⟨.inl rfl, ⟨.inl rfl, ⟨.inl rfl, ⟨.inl rfl, ⟨.inl rfl, ⟨.inl rfl, ⟨.inl rfl, ⟨.inl rfl, ⟨.inl rfl, ⟨.inl rfl, trivial⟩⟩⟩⟩⟩⟩⟩⟩⟩⟩⟩⟩⟩⟩⟩⟩⟩⟩⟩⟩⟩⟩⟩⟩⟩⟩⟩⟩⟩⟩⟩, rfl, rfl, rfl, ⟨_, .slnil, (.refl _)⟩, rfl⟩ ?_
    rintro ⟨⟨n6, x5⟩, h⟩
    cases n6 with
    | zero => cases h
    | succ n6 =>
      replace h : ref15_Few_l0_b a0 n6 (ref15_Few_l0 a0 n6) x5 = some _ := h
      unfold ref15_Few_l0_b at h
      refine AWp.seq ?_
      refine AWp.seqX [0, 3, 11] (tg := []) (H := [(6, .int .i64 (a0.length : Int))]) (st' := ⟨sp [(0, .slice 1 (a0.map ceS)), (3, .int .i64 x5), (11, .bool (cond (decide (x5 < (a0.length : Int))) (decide (x5 ≤ 138)) false))] 0 31, [], [], []⟩) (ob := (True ∧ (True ∧ (((True ∧ True) ∧ ((.int .i64 ((a0.map ceS).length : Int) : DV) = .int .i64 (a0.length : Int))) ∧ ((True ∧ (True ∧ (IntKind.i64 = IntKind.i64))) ∧ (True ∧ ((((decide (x5 < (a0.length : Int))) == true) = true → True) ∧ ((((decide (x5 < (a0.length : Int))) == true) = true → (((((decide (x5 < (a0.length : Int))) == true) = true) ∧ True) ∧ (True ∧ (IntKind.i64 = IntKind.i64)))) ∧ ((True ∧ (((decide (x5 < (a0.length : Int))) = true → ((((decide (x5 < (a0.length : Int))) == true) = true) ∧ True)) ∧ ((decide (x5 < (a0.length : Int))) = false → True))) ∧ True))))))))) (by kernel_rfl) ⟨trivial, ⟨trivial, ⟨⟨⟨trivial, trivial⟩, (congrArg (fun n : Nat => DV.int .i64 n) (List.length_map _))⟩, ⟨⟨trivial, ⟨trivial, rfl⟩⟩, ⟨trivial, ⟨(fun hg0 => trivial), ⟨(fun hg0 => ⟨⟨hg0, trivial⟩, ⟨trivial, rfl⟩⟩), ⟨⟨trivial, ⟨(fun hg0 => ⟨(beqT hg0), trivial⟩), (fun hg0 => trivial)⟩⟩, trivial⟩⟩⟩⟩⟩⟩⟩⟩ ?_
      refine AWp.cond (b := cond (decide (x5 < (a0.length : Int))) (decide (x5 ≤ 138)) false) (by kernel_rfl) trivial (fun c7 => ?_) (fun c7 => ?_)
      · have h := cond_t c7 h
        refine AWp.skip ?_
        refine AWp.seq ?_
        refine AWp.block ?_
        obtain ⟨⟨o8, o9⟩, h⟩ := req_some h
        refine AWp.seqX [0, 3, 27] (tg := []) (H := [(16, .cptr [.str (a0.getD (x5 : Int).toNat default)] 0), (23, .cptr [.str (a0.getD (x5 : Int).toNat default)] 0)]) (st' := ⟨sp [(0, .slice 1 (a0.map ceS)), (3, .int .i64 x5), (27, .bool (cond (decide (60 < ((a0.getD (x5 : Int).toNat default).length : Int))) (decide (((a0.getD (x5 : Int).toNat default).length : Int) ≤ 4096)) false))] 0 31, [], [], []⟩) (ob := (True ∧ (True ∧ (((True ∧ (True ∧ (((0 : Int) ≤ x5) ∧ ((x5 < ((a0.map ceS).length : Int)) ∧ (1 = 1))))) ∧ ((.cptr ((a0.map ceS).getD (x5 : Int).toNat []) 0 : DV) = .cptr [.str (a0.getD (x5 : Int).toNat default)] 0)) ∧ ((True ∧ (0 < 1)) ∧ ((True ∧ True) ∧ ((True ∧ (True ∧ (IntKind.i64 = IntKind.i64))) ∧ (True ∧ ((((decide (60 < ((a0.getD (x5 : Int).toNat default).length : Int))) == true) = true → True) ∧ ((((decide (60 < ((a0.getD (x5 : Int).toNat default).length : Int))) == true) = true → True) ∧ ((((decide (60 < ((a0.getD (x5 : Int).toNat default).length : Int))) == true) = true → ((((((decide (60 < ((a0.getD (x5 : Int).toNat default).length : Int))) == true) = true) ∧ True) ∧ (((((decide (60 < ((a0.getD (x5 : Int).toNat default).length : Int))) == true) = true) ∧ True) ∧ (((0 : Int) ≤ x5) ∧ ((x5 < ((a0.map ceS).length : Int)) ∧ (1 = 1))))) ∧ ((.cptr ((a0.map ceS).getD (x5 : Int).toNat []) 0 : DV) = .cptr [.str (a0.getD (x5 : Int).toNat default)] 0))) ∧ ((((decide (60 < ((a0.getD (x5 : Int).toNat default).length : Int))) == true) = true → (((((decide (60 < ((a0.getD (x5 : Int).toNat default).length : Int))) == true) = true) ∧ True) ∧ (0 < 1))) ∧ ((((decide (60 < ((a0.getD (x5 : Int).toNat default).length : Int))) == true) = true → (((((decide (60 < ((a0.getD (x5 : Int).toNat default).length : Int))) == true) = true) ∧ True) ∧ True)) ∧ ((((decide (60 < ((a0.getD (x5 : Int).toNat default).length : Int))) == true) = true → (((((decide (60 < ((a0.getD (x5 : Int).toNat default).length : Int))) == true) = true) ∧ True) ∧ (True ∧ (IntKind.i64 = IntKind.i64)))) ∧ ((True ∧ (((decide (60 < ((a0.getD (x5 : Int).toNat default).length : Int))) = true → ((((decide (60 < ((a0.getD (x5 : Int).toNat default).length : Int))) == true) = true) ∧ True)) ∧ ((decide (60 < ((a0.getD (x5 : Int).toNat default).length : Int))) = false → True))) ∧ True))))))))))))))) (by kernel_rfl) ⟨trivial, ⟨trivial, ⟨⟨⟨trivial, ⟨trivial, ⟨o8, ⟨(lt_map o9), rfl⟩⟩⟩⟩, (congrArg (fun c => DV.cptr c 0) (getD_encI ceS a0 (x5 : Int) o8 o9))⟩, ⟨⟨trivial, (by decide)⟩, ⟨⟨trivial, trivial⟩, ⟨⟨trivial, ⟨trivial, rfl⟩⟩, ⟨trivial, ⟨(fun hg0 => trivial), ⟨(fun hg0 => trivial), ⟨(fun hg0 => ⟨⟨⟨hg0, trivial⟩, ⟨⟨hg0, trivial⟩, ⟨((fun _ => o8) hg0), ⟨(lt_map ((fun _ => o9) hg0)), rfl⟩⟩⟩⟩, (congrArg (fun c => DV.cptr c 0) (getD_encI ceS a0 (x5 : Int) ((fun _ => o8) hg0) ((fun _ => o9) hg0)))⟩), ⟨(fun hg0 => ⟨⟨hg0, trivial⟩, (by decide)⟩), ⟨(fun hg0 => ⟨⟨hg0, trivial⟩, trivial⟩), ⟨(fun hg0 => ⟨⟨hg0, trivial⟩, ⟨trivial, rfl⟩⟩), ⟨⟨trivial, ⟨(fun hg0 => ⟨(beqT hg0), trivial⟩), (fun hg0 => trivial)⟩⟩, trivial⟩⟩⟩⟩⟩⟩⟩⟩⟩⟩⟩⟩⟩⟩ ?_
        refine AWp.cond (b := cond (decide (60 < ((a0.getD (x5 : Int).toNat default).length : Int))) (decide (((a0.getD (x5 : Int).toNat default).length : Int) ≤ 4096)) false) (by kernel_rfl) trivial (fun c10 => ?_) (fun c10 => ?_)
        · have h := cond_t c10 h
          refine AWp.seqX [2] (tg := []) (H := []) (st' := ⟨sp [(2, .bool false)] 0 31, [], [], []⟩) (ob := (True ∧ True)) (by kernel_rfl) ⟨trivial, trivial⟩ ?_
          refine AWp.ret ?_
          have h := jk_some h k4
          obtain rfl := Option.some.inj h
          exact ⟨[.bool false], (True ∧ True), by kernel_rfl, ⟨trivial, trivial⟩, by kernel_rfl, ⟨rfl, rfl, rfl⟩⟩
        · have h := cond_f c10 h
          refine AWp.skip ?_
          refine AWp.tailN [0, 3] [] (tg := [3, 13]) (H := []) (st' := ⟨sp [(0, .slice 1 (a0.map ceS)), (3, .int .i64 (IntKind.i64.wrap (x5 + 1)))] 0 31, [], [], []⟩) (ob := (True ∧ ((True ∧ (True ∧ (IntKind.i64 = IntKind.i64))) ∧ (True ∧ True)))) (by kernel_rfl) ⟨trivial, ⟨⟨trivial, ⟨trivial, rfl⟩⟩, ⟨trivial, trivial⟩⟩⟩ ?_
          exact ⟨⟨(n6, IntKind.i64.wrap (x5 + 1)), h⟩, Nat.lt_succ_self _, ⟨⟨.inr ⟨rfl, rfl⟩, ⟨.inl rfl, ⟨.inl rfl, ⟨.inr ⟨rfl, rfl⟩, ⟨.inl rfl, ⟨.inl rfl, ⟨.inl rfl, ⟨.inl rfl, ⟨.inl rfl, ⟨.inl rfl, ⟨.inl rfl, ⟨.inl rfl, ⟨.inl rfl, ⟨.inl rfl, ⟨.inl rfl, ⟨.inl rfl, ⟨.inl rfl, ⟨.inl rfl, ⟨.inl rfl, ⟨.inl rfl, ⟨.inl rfl, ⟨.inl rfl, ⟨.inl rfl, ⟨.inl rfl, ⟨.inl rfl, ⟨.inl rfl, ⟨.inl rfl, ⟨.inl rfl, ⟨.inl rfl, ⟨.inl rfl, ⟨.inl rfl, trivial⟩⟩⟩⟩⟩⟩⟩⟩⟩⟩⟩⟩⟩⟩⟩⟩⟩⟩⟩⟩⟩⟩⟩⟩⟩⟩⟩⟩⟩⟩⟩, rfl, rfl, rfl, ⟨_, .slnil, (.refl _)⟩, rfl⟩⟩
      · have h := cond_f c7 h
        refine AWp.exit ?_
        obtain rfl := Option.some.inj h
        exact ⟨_, rfl, ⟨⟨.inr ⟨rfl, rfl⟩, ⟨.inl rfl, ⟨.inl rfl, ⟨.inl rfl, ⟨.inl rfl, ⟨.inl rfl, ⟨.inl rfl, ⟨.inl rfl, ⟨.inl rfl, ⟨.inl rfl, ⟨.inl rfl, ⟨.inl rfl, ⟨.inl rfl, ⟨.inl rfl, ⟨.inl rfl, ⟨.inl rfl, ⟨.inl rfl, ⟨.inl rfl, ⟨.inl rfl, ⟨.inl rfl, ⟨.inl rfl, ⟨.inl rfl, ⟨.inl rfl, ⟨.inl rfl, ⟨.inl rfl, ⟨.inl rfl, ⟨.inl rfl, ⟨.inl rfl, ⟨.inl rfl, ⟨.inl rfl, ⟨.inl rfl, trivial⟩⟩⟩⟩⟩⟩⟩⟩⟩⟩⟩⟩⟩⟩⟩⟩⟩⟩⟩⟩⟩⟩⟩⟩⟩⟩⟩⟩⟩⟩⟩, rfl, rfl, rfl, ⟨_, .slnil, (.refl _)⟩, rfl⟩⟩
  · intro s1 s1h
    have h := jk_go s1h k4
    refine AWp.seqX [2] (tg := [2, 30]) (H := [(29, .int .i64 (a0.length : Int))]) (st' := ⟨sp [(2, .bool (decide ((a0.length : Int) ≤ 138)))] 0 31, [], [], []⟩) (ob := (True ∧ (((True ∧ True) ∧ ((.int .i64 ((a0.map ceS).length : Int) : DV) = .int .i64 (a0.length : Int))) ∧ ((True ∧ (True ∧ (IntKind.i64 = IntKind.i64))) ∧ (True ∧ True))))) (by kernel_rfl) ⟨trivial, ⟨⟨⟨trivial, trivial⟩, (congrArg (fun n : Nat => DV.int .i64 n) (List.length_map _))⟩, ⟨⟨trivial, ⟨trivial, rfl⟩⟩, ⟨trivial, trivial⟩⟩⟩⟩ ?_
    refine AWp.ret ?_
    obtain rfl := Option.some.inj h
    exact ⟨[.bool (decide ((a0.length : Int) ≤ 138))], (True ∧ True), by kernel_rfl, ⟨trivial, trivial⟩, by kernel_rfl, ⟨rfl, rfl, rfl⟩⟩
def ref15_Get_l0_b (a0 : List TVar) (a1 : List UInt8) (n6 : Nat) (recref15_Get_l0 : Int → Option (J Unit (TVar × Bool))) (x5 : Int) : Option (J Unit (TVar × Bool)) :=
  cond (decide (x5 < (a0.length : Int))) (
    req (((0 : Int) ≤ x5) ∧ (x5 < (a0.length : Int))) (
      cond (((a0.getD (x5 : Int).toNat default).fName) == a1) (
        some (J.ret ((a0.getD (x5 : Int).toNat default), true))) (
        recref15_Get_l0 (IntKind.i64.wrap (x5 + 1))))) (
    some (J.go ()))
def ref15_Get_l0 (a0 : List TVar) (a1 : List UInt8) : Nat → Int → Option (J Unit (TVar × Bool))
  | 0, _ => none
  | n + 1, x => ref15_Get_l0_b a0 a1 n (ref15_Get_l0 a0 a1 n) x
def ref15_Get (fuel : Nat) (a0 : List TVar) (a1 : List UInt8) : Option (TVar × Bool) :=
  jn (ref15_Get_l0 a0 a1 fuel (0 : Int)) (fun s1 =>
    some ((TVar.mk [] [] false false false), false))
theorem ref15_Get_ok (fuel : Nat) (a0 : List TVar) (a1 : List UInt8) (r : TVar × Bool) (h : ref15_Get fuel a0 a1 = some r) : ACalls Try.prog 13 [.slice 5 (a0.map encTVar), .str a1] [] (fun q => q = ⟨.tuple [.agg [.str r.1.fName, .str r.1.fValue, .bool r.1.fSet, .bool r.1.fExport, .bool r.1.fReadonly], .bool r.2], [], [], []⟩) := by
  unfold ref15_Get at h
  refine ACalls.noown ?_
  refine ACalls.intro (fn := Try.f13) Try.func13 rfl ?_
  refine AWp.keep [0, 1] (st' := ⟨sp [(0, .slice 5 (a0.map encTVar)), (1, .str a1)] 0 25, [], [], []⟩) (by kernel_rfl) ?_
  refine AWp.seqX [0, 1, 4] (tg := []) (H := []) (st' := ⟨sp [(0, .slice 5 (a0.map encTVar)), (1, .str a1), (4, .ptr true 0 0)] 0 25, [.cells 26 [.str [], .str [], .bool false, .bool false, .bool false]], [], []⟩) (ob := ((true = true) ∧ (True ∧ True))) (by kernel_rfl) ⟨rfl, ⟨trivial, trivial⟩⟩ ?_
  obtain ⟨j3, e2, k4⟩ := jn_some h
  refine AWp.seqSum (σ := Unit) (fun s1 => ⟨sp [(4, .ptr true 0 0)] 0 25, [.cells 26 [.str [], .str [], .bool false, .bool false, .bool false]], [], []⟩) (fun s1 => j3 = .go s1) ?_ ?_
  ·
    refine AWp.seqX [0, 1, 4, 6] (tg := []) (H := []) (st' := ⟨sp [(0, .slice 5 (a0.map encTVar)), (1, .str a1), (4, .ptr true 0 0), (6, .int .i64 0)] 0 25, [.cells 26 [.str [], .str [], .bool false, .bool false, .bool false]], [], []⟩) (ob := (True ∧ True)) (by kernel_rfl) ⟨trivial, trivial⟩ ?_
    refine AWp.block ?_
    refine AWp.loop (ι := {p : Nat × (Int) // ref15_Get_l0 a0 a1 p.1 p.2 = some _}) (fun p => ⟨sp [(0, .slice 5 (a0.map encTVar)), (1, .str a1), (4, .ptr true 0 0), (6, .int .i64 p.1.2)] 0 25, [.cells 26 [.str [], .str [], .bool false, .bool false, .bool false]], [], []⟩) (fun p => p.1.1) ⟨(fuel, (0 : Int)), e2⟩ ⟨⟨.inr ⟨rfl, rfl⟩, ⟨.inr ⟨rfl, rfl⟩, ⟨.inl rfl, ⟨.inl rfl, ⟨.inr ⟨rfl, rfl⟩, ⟨.inl rfl, ⟨.inr ⟨rfl, rfl⟩, ⟨.inl rfl, ⟨.inl rfl, ⟨.inl rfl, ⟨.inl rfl, ⟨.inl rfl, ⟨.inl rfl, ⟨.inl rfl, ⟨.inl rfl, ⟨.inl rfl, ⟨.inl rfl, ⟨.inl rfl, ⟨.inl rfl, ⟨.inl rfl, ⟨.inl rfl, ⟨.inl rfl, ⟨.inl rfl, ⟨.inl rfl, ⟨.inl rfl, trivial⟩⟩⟩⟩⟩⟩⟩⟩⟩⟩⟩⟩⟩⟩⟩⟩⟩⟩⟩⟩⟩⟩⟩⟩⟩, rfl, rfl, rfl, ⟨_, .slnil, (.refl _)⟩, rfl⟩ ?_
    rintro ⟨⟨n6, x5⟩, h⟩
    cases n6 with
    | zero => cases h
    | succ n6 =>
      replace h : ref15_Get_l0_b a0 a1 n6 (ref15_Get_l0 a0 a1 n6) x5 = some _ := h
      unfold ref15_Get_l0_b at h
      refine AWp.seq ?_
      refine AWp.seqX [0, 1, 4, 6, 10] (tg := []) (H := [(9, .int .i64 (a0.length : Int))]) (st' := ⟨sp [(0, .slice 5 (a0.map encTVar)), (1, .str a1), (4, .ptr true 0 0), (6, .int .i64 x5), (10, .bool (decide (x5 < (a0.length : Int))))] 0 25, [.cells 26 [.str [], .str [], .bool false, .bool false, .bool false]], [], []⟩) (ob := (True ∧ (True ∧ (((True ∧ True) ∧ ((.int .i64 ((a0.map encTVar).length : Int) : DV) = .int .i64 (a0.length : Int))) ∧ ((True ∧ (True ∧ (IntKind.i64 = IntKind.i64))) ∧ True))))) (by kernel_rfl) ⟨trivial, ⟨trivial, ⟨⟨⟨trivial, trivial⟩, (congrArg (fun n : Nat => DV.int .i64 n) (List.length_map _))⟩, ⟨⟨trivial, ⟨trivial, rfl⟩⟩, trivial⟩⟩⟩⟩ ?_
      refine AWp.cond (b := decide (x5 < (a0.length : Int))) (by kernel_rfl) trivial (fun c7 => ?_) (fun c7 => ?_)
      · have h := cond_t c7 h
        refine AWp.skip ?_
        refine AWp.seq ?_
        refine AWp.block ?_
        obtain ⟨⟨o8, o9⟩, h⟩ := req_some h
        refine AWp.seqX [0, 1, 4, 6, 19] (tg := []) (H := [(15, .cptr [.str ((a0.getD (x5 : Int).toNat default).fName), .str ((a0.getD (x5 : Int).toNat default).fValue), .bool ((a0.getD (x5 : Int).toNat default).fSet), .bool ((a0.getD (x5 : Int).toNat default).fExport), .bool ((a0.getD (x5 : Int).toNat default).fReadonly)] 0)]) (st' := ⟨sp [(0, .slice 5 (a0.map encTVar)), (1, .str a1), (4, .ptr true 0 0), (6, .int .i64 x5), (19, .bool (((a0.getD (x5 : Int).toNat default).fName) == a1))] 0 25, [.cells 26 [.str [], .str [], .bool false, .bool false, .bool false]], [], []⟩) (ob := (True ∧ (True ∧ (((True ∧ (True ∧ (((0 : Int) ≤ x5) ∧ ((x5 < ((a0.map encTVar).length : Int)) ∧ (5 = 5))))) ∧ ((.cptr ((a0.map encTVar).getD (x5 : Int).toNat []) 0 : DV) = .cptr [.str ((a0.getD (x5 : Int).toNat default).fName), .str ((a0.getD (x5 : Int).toNat default).fValue), .bool ((a0.getD (x5 : Int).toNat default).fSet), .bool ((a0.getD (x5 : Int).toNat default).fExport), .bool ((a0.getD (x5 : Int).toNat default).fReadonly)] 0)) ∧ ((True ∧ (1 ≠ 0)) ∧ ((True ∧ (0 < 5)) ∧ (True ∧ ((True ∧ (True ∧ True)) ∧ True)))))))) (by kernel_rfl) ⟨trivial, ⟨trivial, ⟨⟨⟨trivial, ⟨trivial, ⟨o8, ⟨(lt_map o9), rfl⟩⟩⟩⟩, (congrArg (fun c => DV.cptr c 0) (getD_encI encTVar a0 (x5 : Int) o8 o9))⟩, ⟨⟨trivial, (by decide)⟩, ⟨⟨trivial, (by decide)⟩, ⟨trivial, ⟨⟨trivial, ⟨trivial, trivial⟩⟩, trivial⟩⟩⟩⟩⟩⟩⟩ ?_
        refine AWp.cond (b := ((a0.getD (x5 : Int).toNat default).fName) == a1) (by kernel_rfl) trivial (fun c10 => ?_) (fun c10 => ?_)
        · have h := cond_t c10 h
          refine AWp.seqX [4, 5] (tg := [23]) (H := [(22, .cptr [.str ((a0.getD (x5 : Int).toNat default).fName), .str ((a0.getD (x5 : Int).toNat default).fValue), .bool ((a0.getD (x5 : Int).toNat default).fSet), .bool ((a0.getD (x5 : Int).toNat default).fExport), .bool ((a0.getD (x5 : Int).toNat default).fReadonly)] 0)]) (st' := ⟨sp [(4, .ptr true 0 0), (5, .bool true)] 0 25, [.cells 26 [.str ((a0.getD (x5 : Int).toNat default).fName), .str ((a0.getD (x5 : Int).toNat default).fValue), .bool ((a0.getD (x5 : Int).toNat default).fSet), .bool ((a0.getD (x5 : Int).toNat default).fExport), .bool ((a0.getD (x5 : Int).toNat default).fReadonly)]], [], []⟩) (ob := (True ∧ (True ∧ (((True ∧ (True ∧ (((0 : Int) ≤ x5) ∧ ((x5 < ((a0.map encTVar).length : Int)) ∧ (5 = 5))))) ∧ ((.cptr ((a0.map encTVar).getD (x5 : Int).toNat []) 0 : DV) = .cptr [.str ((a0.getD (x5 : Int).toNat default).fName), .str ((a0.getD (x5 : Int).toNat default).fValue), .bool ((a0.getD (x5 : Int).toNat default).fSet), .bool ((a0.getD (x5 : Int).toNat default).fExport), .bool ((a0.getD (x5 : Int).toNat default).fReadonly)] 0)) ∧ ((True ∧ (0 + 5 ≤ 5)) ∧ ((True ∧ (True ∧ ((true = true) ∧ (0 + 5 ≤ 5)))) ∧ (True ∧ True))))))) (by kernel_rfl) ⟨trivial, ⟨trivial, ⟨⟨⟨trivial, ⟨trivial, ⟨o8, ⟨(lt_map o9), rfl⟩⟩⟩⟩, (congrArg (fun c => DV.cptr c 0) (getD_encI encTVar a0 (x5 : Int) o8 o9))⟩, ⟨⟨trivial, (by decide)⟩, ⟨⟨trivial, ⟨trivial, ⟨rfl, (by decide)⟩⟩⟩, ⟨trivial, trivial⟩⟩⟩⟩⟩⟩ ?_
          refine AWp.ret ?_
          have h := jk_some h k4
          obtain rfl := Option.some.inj h
          exact ⟨[.agg [.str ((a0.getD (x5 : Int).toNat default).fName), .str ((a0.getD (x5 : Int).toNat default).fValue), .bool ((a0.getD (x5 : Int).toNat default).fSet), .bool ((a0.getD (x5 : Int).toNat default).fExport), .bool ((a0.getD (x5 : Int).toNat default).fReadonly)], .bool true], ((0 + 5 ≤ 5) ∧ (True ∧ True)), by kernel_rfl, ⟨(by decide), ⟨trivial, trivial⟩⟩, by kernel_rfl, ⟨rfl, rfl, rfl⟩⟩
        · have h := cond_f c10 h
          refine AWp.skip ?_
          refine AWp.tailN [0, 1, 4, 6] [] (tg := [6, 12]) (H := []) (st' := ⟨sp [(0, .slice 5 (a0.map encTVar)), (1, .str a1), (4, .ptr true 0 0), (6, .int .i64 (IntKind.i64.wrap (x5 + 1)))] 0 25, [.cells 26 [.str [], .str [], .bool false, .bool false, .bool false]], [], []⟩) (ob := (True ∧ ((True ∧ (True ∧ (IntKind.i64 = IntKind.i64))) ∧ (True ∧ True)))) (by kernel_rfl) ⟨trivial, ⟨⟨trivial, ⟨trivial, rfl⟩⟩, ⟨trivial, trivial⟩⟩⟩ ?_
          exact ⟨⟨(n6, IntKind.i64.wrap (x5 + 1)), h⟩, Nat.lt_succ_self _, ⟨⟨.inr ⟨rfl, rfl⟩, ⟨.inr ⟨rfl, rfl⟩, ⟨.inl rfl, ⟨.inl rfl, ⟨.inr ⟨rfl, rfl⟩, ⟨.inl rfl, ⟨.inr ⟨rfl, rfl⟩, ⟨.inl rfl, ⟨.inl rfl, ⟨.inl rfl, ⟨.inl rfl, ⟨.inl rfl, ⟨.inl rfl, ⟨.inl rfl, ⟨.inl rfl, ⟨.inl rfl, ⟨.inl rfl, ⟨.inl rfl, ⟨.inl rfl, ⟨.inl rfl, ⟨.inl rfl, ⟨.inl rfl, ⟨.inl rfl, ⟨.inl rfl, ⟨.inl rfl, trivial⟩⟩⟩⟩⟩⟩⟩⟩⟩⟩⟩⟩⟩⟩⟩⟩⟩⟩⟩⟩⟩⟩⟩⟩⟩, rfl, rfl, rfl, ⟨_, .slnil, (.refl _)⟩, rfl⟩⟩
      · have h := cond_f c7 h
        refine AWp.exit ?_
        obtain rfl := Option.some.inj h
        exact ⟨_, rfl, ⟨⟨.inl rfl, ⟨.inl rfl, ⟨.inl rfl, ⟨.inl rfl, ⟨.inr ⟨rfl, rfl⟩, ⟨.inl rfl, ⟨.inl rfl, ⟨.inl rfl, ⟨.inl rfl, ⟨.inl rfl, ⟨.inl rfl, ⟨.inl rfl, ⟨.inl rfl, ⟨.inl rfl, ⟨.inl rfl, ⟨.inl rfl, ⟨.inl rfl, ⟨.inl rfl, ⟨.inl rfl, ⟨.inl rfl, ⟨.inl rfl, ⟨.inl rfl, ⟨.inl rfl, ⟨.inl rfl, ⟨.inl rfl, trivial⟩⟩⟩⟩⟩⟩⟩⟩⟩⟩⟩⟩⟩⟩⟩⟩⟩⟩⟩⟩⟩⟩⟩⟩⟩, rfl, rfl, rfl, ⟨_, .slnil, (.refl _)⟩, rfl⟩⟩
  · intro s1 s1h
    have h := jk_go s1h k4
    refine AWp.seqX [4, 5] (tg := [24]) (H := []) (st' := ⟨sp [(4, .ptr true 0 0), (5, .bool false)] 0 25, [.cells 26 [.str [], .str [], .bool false, .bool false, .bool false]], [], []⟩) (ob := ((true = true) ∧ ((True ∧ (True ∧ ((true = true) ∧ (0 + 5 ≤ 5)))) ∧ (True ∧ True)))) (by kernel_rfl) ⟨rfl, ⟨⟨trivial, ⟨trivial, ⟨rfl, (by decide)⟩⟩⟩, ⟨trivial, trivial⟩⟩⟩ ?_
    refine AWp.ret ?_
    obtain rfl := Option.some.inj h
    exact ⟨[.agg [.str [], .str [], .bool false, .bool false, .bool false], .bool false], ((0 + 5 ≤ 5) ∧ (True ∧ True)), by kernel_rfl, ⟨(by decide), ⟨trivial, trivial⟩⟩, by kernel_rfl, ⟨rfl, rfl, rfl⟩⟩
def ref15_Same_l0_b (a0 : List TVar) (a1 : List TVar) (n7 : Nat) (recref15_Same_l0 : Int → Option (J Unit Bool)) (x6 : Int) : Option (J Unit Bool) :=
  cond (decide (x6 < (a0.length : Int))) (
    req (((0 : Int) ≤ x6) ∧ (x6 < (a0.length : Int)) ∧ (x6 < (a1.length : Int))) (
      cond (!(((a0.getD (x6 : Int).toNat default).fName) == ((a1.getD (x6 : Int).toNat default).fName) && (((a0.getD (x6 : Int).toNat default).fValue) == ((a1.getD (x6 : Int).toNat default).fValue) && (((a0.getD (x6 : Int).toNat default).fSet) == ((a1.getD (x6 : Int).toNat default).fSet) && (((a0.getD (x6 : Int).toNat default).fExport) == ((a1.getD (x6 : Int).toNat default).fExport) && (((a0.getD (x6 : Int).toNat default).fReadonly) == ((a1.getD (x6 : Int).toNat default).fReadonly) && true)))))) (
        some (J.ret false)) (
        recref15_Same_l0 (IntKind.i64.wrap (x6 + 1))))) (
    some (J.go ()))
def ref15_Same_l0 (a0 : List TVar) (a1 : List TVar) : Nat → Int → Option (J Unit Bool)
  | 0, _ => none
  | n + 1, x => ref15_Same_l0_b a0 a1 n (ref15_Same_l0 a0 a1 n) x
def ref15_Same (fuel : Nat) (a0 : List TVar) (a1 : List TVar) : Option Bool :=
  cond ((a0.length : Int) != (a1.length : Int)) (
    some false) (
    jn (ref15_Same_l0 a0 a1 fuel (0 : Int)) (fun s2 =>
      some true))
theorem ref15_Same_ok (fuel : Nat) (a0 : List TVar) (a1 : List TVar) (r : Bool) (h : ref15_Same fuel a0 a1 = some r) : ACalls Try.prog 19 [.slice 5 (a0.map encTVar), .slice 5 (a1.map encTVar)] [] (fun q => q = ⟨.bool r, [], [], []⟩) := by
  unfold ref15_Same at h
  refine ACalls.noown ?_
  refine ACalls.intro (fn := Try.f19) Try.func19 rfl ?_
  refine AWp.keep [0, 1] (st' := ⟨sp [(0, .slice 5 (a0.map encTVar)), (1, .slice 5 (a1.map encTVar))] 0 26, [], [], []⟩) (by kernel_rfl) ?_
  refine AWp.seqX [0, 1] (tg := []) (H := []) (st' := ⟨sp [(0, .slice 5 (a0.map encTVar)), (1, .slice 5 (a1.map encTVar))] 0 26, [], [], []⟩) (ob := (True ∧ True)) (by kernel_rfl) ⟨trivial, trivial⟩ ?_
  refine AWp.seq ?_
  refine AWp.seqX [0, 1, 10] (tg := []) (H := [(7, .int .i64 (a0.length : Int)), (9, .int .i64 (a1.length : Int))]) (st' := ⟨sp [(0, .slice 5 (a0.map encTVar)), (1, .slice 5 (a1.map encTVar)), (10, .bool ((a0.length : Int) != (a1.length : Int)))] 0 26, [], [], []⟩) (ob := (True ∧ (((True ∧ True) ∧ ((.int .i64 ((a0.map encTVar).length : Int) : DV) = .int .i64 (a0.length : Int))) ∧ (True ∧ (((True ∧ True) ∧ ((.int .i64 ((a1.map encTVar).length : Int) : DV) = .int .i64 (a1.length : Int))) ∧ ((True ∧ (True ∧ (IntKind.i64 = IntKind.i64))) ∧ True)))))) (by kernel_rfl) ⟨trivial, ⟨⟨⟨trivial, trivial⟩, (congrArg (fun n : Nat => DV.int .i64 n) (List.length_map _))⟩, ⟨trivial, ⟨⟨⟨trivial, trivial⟩, (congrArg (fun n : Nat => DV.int .i64 n) (List.length_map _))⟩, ⟨⟨trivial, ⟨trivial, rfl⟩⟩, trivial⟩⟩⟩⟩⟩ ?_
  refine AWp.cond (b := (a0.length : Int) != (a1.length : Int)) (by kernel_rfl) trivial (fun c1 => ?_) (fun c1 => ?_)
  · have h := cond_t c1 h
    refine AWp.seqX [4] (tg := []) (H := []) (st' := ⟨sp [(4, .bool false)] 0 26, [], [], []⟩) (ob := (True ∧ True)) (by kernel_rfl) ⟨trivial, trivial⟩ ?_
    refine AWp.ret ?_
    obtain rfl := Option.some.inj h
    exact ⟨[.bool false], (True ∧ True), by kernel_rfl, ⟨trivial, trivial⟩, by kernel_rfl, ⟨rfl, rfl, rfl⟩⟩
  · have h := cond_f c1 h
    refine AWp.skip ?_
    obtain ⟨j4, e3, k5⟩ := jn_some h
    refine AWp.seqSum (σ := Unit) (fun s2 => ⟨sp [] 0 26, [], [], []⟩) (fun s2 => j4 = .go s2) ?_ ?_
    ·
      refine AWp.seqX [0, 1, 5] (tg := []) (H := []) (st' := ⟨sp [(0, .slice 5 (a0.map encTVar)), (1, .slice 5 (a1.map encTVar)), (5, .int .i64 0)] 0 26, [], [], []⟩) (ob := (True ∧ True)) (by kernel_rfl) ⟨trivial, trivial⟩ ?_
      refine AWp.block ?_
      refine AWp.loop (ι := {p : Nat × (Int) // ref15_Same_l0 a0 a1 p.1 p.2 = some _}) (fun p => ⟨sp [(0, .slice 5 (a0.map encTVar)), (1, .slice 5 (a1.map encTVar)), (5, .int .i64 p.1.2)] 0 26, [], [], []⟩) (fun p => p.1.1) ⟨(fuel, (0 : Int)), e3⟩ ⟨⟨.inr ⟨rfl, rfl⟩, ⟨.inr ⟨rfl, rfl⟩, ⟨.inl rfl, ⟨.inl rfl, ⟨.inl rfl, ⟨.inr ⟨rfl, rfl⟩, ⟨.inl rfl, ⟨.inl rfl, ⟨.inl rfl, ⟨.inl rfl, ⟨.inl rfl, ⟨.inl rfl, ⟨.inl rfl, ⟨.inl rfl, ⟨.inl rfl, ⟨.inl rfl, ⟨.inl rfl, ⟨.inl rfl, ⟨.inl rfl, ⟨.inl rfl, ⟨.inl rfl, ⟨.inl rfl, ⟨.inl rfl, ⟨.inl rfl, ⟨.inl rfl, ⟨.inl rfl, trivial⟩⟩⟩⟩⟩⟩⟩⟩⟩⟩⟩⟩⟩⟩⟩⟩⟩⟩⟩⟩⟩⟩⟩⟩⟩⟩, rfl, rfl, rfl, ⟨_, .slnil, (.refl _)⟩, rfl⟩ ?_
      rintro ⟨⟨n7, x6⟩, h⟩
      cases n7 with
      | zero => cases h
      | succ n7 =>
        replace h : ref15_Same_l0_b a0 a1 n7 (ref15_Same_l0 a0 a1 n7) x6 = some _ := h
        unfold ref15_Same_l0_b at h
        refine AWp.seq ?_
        refine AWp.seqX [0, 1, 5, 14] (tg := []) (H := [(13, .int .i64 (a0.length : Int))]) (st' := ⟨sp [(0, .slice 5 (a0.map encTVar)), (1, .slice 5 (a1.map encTVar)), (5, .int .i64 x6), (14, .bool (decide (x6 < (a0.length : Int))))] 0 26, [], [], []⟩) (ob := (True ∧ (True ∧ (((True ∧ True) ∧ ((.int .i64 ((a0.map encTVar).length : Int) : DV) = .int .i64 (a0.length : Int))) ∧ ((True ∧ (True ∧ (IntKind.i64 = IntKind.i64))) ∧ True))))) (by kernel_rfl) ⟨trivial, ⟨trivial, ⟨⟨⟨trivial, trivial⟩, (congrArg (fun n : Nat => DV.int .i64 n) (List.length_map _))⟩, ⟨⟨trivial, ⟨trivial, rfl⟩⟩, trivial⟩⟩⟩⟩ ?_
        refine AWp.cond (b := decide (x6 < (a0.length : Int))) (by kernel_rfl) trivial (fun c8 => ?_) (fun c8 => ?_)
        · have h := cond_t c8 h
          refine AWp.skip ?_
          refine AWp.seq ?_
          refine AWp.block ?_
          obtain ⟨⟨o9, o10, o11⟩, h⟩ := req_some h
          refine AWp.seqQ [0, 1, 5, 25] (tg := []) (H := [(19, .cptr [.str ((a0.getD (x6 : Int).toNat default).fName), .str ((a0.getD (x6 : Int).toNat default).fValue), .bool ((a0.getD (x6 : Int).toNat default).fSet), .bool ((a0.getD (x6 : Int).toNat default).fExport), .bool ((a0.getD (x6 : Int).toNat default).fReadonly)] 0), (23, .cptr [.str ((a1.getD (x6 : Int).toNat default).fName), .str ((a1.getD (x6 : Int).toNat default).fValue), .bool ((a1.getD (x6 : Int).toNat default).fSet), .bool ((a1.getD (x6 : Int).toNat default).fExport), .bool ((a1.getD (x6 : Int).toNat default).fReadonly)] 0)]) (st' := ⟨sp [(0, .slice 5 (a0.map encTVar)), (1, .slice 5 (a1.map encTVar)), (5, .int .i64 x6), (25, .bool (!(((a0.getD (x6 : Int).toNat default).fName) == ((a1.getD (x6 : Int).toNat default).fName) && (((a0.getD (x6 : Int).toNat default).fValue) == ((a1.getD (x6 : Int).toNat default).fValue) && (((a0.getD (x6 : Int).toNat default).fSet) == ((a1.getD (x6 : Int).toNat default).fSet) && (((a0.getD (x6 : Int).toNat default).fExport) == ((a1.getD (x6 : Int).toNat default).fExport) && (((a0.getD (x6 : Int).toNat default).fReadonly) == ((a1.getD (x6 : Int).toNat default).fReadonly) && true)))))))] 0 26, [], [], []⟩) (ob := (True ∧ (True ∧ (((True ∧ (True ∧ (((0 : Int) ≤ x6) ∧ ((x6 < ((a0.map encTVar).length : Int)) ∧ (5 = 5))))) ∧ ((.cptr ((a0.map encTVar).getD (x6 : Int).toNat []) 0 : DV) = .cptr [.str ((a0.getD (x6 : Int).toNat default).fName), .str ((a0.getD (x6 : Int).toNat default).fValue), .bool ((a0.getD (x6 : Int).toNat default).fSet), .bool ((a0.getD (x6 : Int).toNat default).fExport), .bool ((a0.getD (x6 : Int).toNat default).fReadonly)] 0)) ∧ ((True ∧ (0 + 5 ≤ 5)) ∧ (True ∧ (True ∧ (((True ∧ (True ∧ (((0 : Int) ≤ x6) ∧ ((x6 < ((a1.map encTVar).length : Int)) ∧ (5 = 5))))) ∧ ((.cptr ((a1.map encTVar).getD (x6 : Int).toNat []) 0 : DV) = .cptr [.str ((a1.getD (x6 : Int).toNat default).fName), .str ((a1.getD (x6 : Int).toNat default).fValue), .bool ((a1.getD (x6 : Int).toNat default).fSet), .bool ((a1.getD (x6 : Int).toNat default).fExport), .bool ((a1.getD (x6 : Int).toNat default).fReadonly)] 0)) ∧ ((True ∧ (0 + 5 ≤ 5)) ∧ ((True ∧ (True ∧ (true = true))) ∧ True)))))))))) mixed (by kernel_rfl) (by kernel_rfl) ⟨trivial, ⟨trivial, ⟨⟨⟨trivial, ⟨trivial, ⟨o9, ⟨(lt_map o10), rfl⟩⟩⟩⟩, (congrArg (fun c => DV.cptr c 0) (getD_encI encTVar a0 (x6 : Int) o9 o10))⟩, ⟨⟨trivial, (by decide)⟩, ⟨trivial, ⟨trivial, ⟨⟨⟨trivial, ⟨trivial, ⟨o9, ⟨(lt_map o11), rfl⟩⟩⟩⟩, (congrArg (fun c => DV.cptr c 0) (getD_encI encTVar a1 (x6 : Int) o9 o11))⟩, ⟨⟨trivial, (by decide)⟩, ⟨⟨trivial, ⟨trivial, rfl⟩⟩, trivial⟩⟩⟩⟩⟩⟩⟩⟩⟩ ?_
          refine AWp.cond (b := !(((a0.getD (x6 : Int).toNat default).fName) == ((a1.getD (x6 : Int).toNat default).fName) && (((a0.getD (x6 : Int).toNat default).fValue) == ((a1.getD (x6 : Int).toNat default).fValue) && (((a0.getD (x6 : Int).toNat default).fSet) == ((a1.getD (x6 : Int).toNat default).fSet) && (((a0.getD (x6 : Int).toNat default).fExport) == ((a1.getD (x6 : Int).toNat default).fExport) && (((a0.getD (x6 : Int).toNat default).fReadonly) == ((a1.getD (x6 : Int).toNat default).fReadonly) && true)))))) (by kernel_rfl) trivial (fun c12 => ?_) (fun c12 => ?_)
          · have h := cond_t c12 h
            refine AWp.seqX [4] (tg := []) (H := []) (st' := ⟨sp [(4, .bool false)] 0 26, [], [], []⟩) (ob := (True ∧ True)) (by kernel_rfl) ⟨trivial, trivial⟩ ?_
            refine AWp.ret ?_
            have h := jk_some h k5
            obtain rfl := Option.some.inj h
            exact ⟨[.bool false], (True ∧ True), by kernel_rfl, ⟨trivial, trivial⟩, by kernel_rfl, ⟨rfl, rfl, rfl⟩⟩
          · have h := cond_f c12 h
            refine AWp.skip ?_
            refine AWp.tailN [0, 1, 5] [] (tg := [5, 16]) (H := []) (st' := ⟨sp [(0, .slice 5 (a0.map encTVar)), (1, .slice 5 (a1.map encTVar)), (5, .int .i64 (IntKind.i64.wrap (x6 + 1)))] 0 26, [], [], []⟩) (ob := (True ∧ ((True ∧ (True ∧ (IntKind.i64 = IntKind.i64))) ∧ (True ∧ True)))) (by kernel_rfl) ⟨trivial, ⟨⟨trivial, ⟨trivial, rfl⟩⟩, ⟨trivial, trivial⟩⟩⟩ ?_
            exact ⟨⟨(n7, IntKind.i64.wrap (x6 + 1)), h⟩, Nat.lt_succ_self _, ⟨⟨.inr ⟨rfl, rfl⟩, ⟨.inr ⟨rfl, rfl⟩, ⟨.inl rfl, ⟨.inl rfl, ⟨.inl rfl, ⟨.inr ⟨rfl, rfl⟩, ⟨.inl rfl, ⟨.inl rfl, ⟨.inl rfl, ⟨.inl rfl, ⟨.inl rfl, ⟨.inl rfl, ⟨.inl rfl, ⟨.inl rfl, ⟨.inl rfl, ⟨.inl rfl, ⟨.inl rfl, ⟨.inl rfl, ⟨.inl rfl, ⟨.inl rfl, ⟨.inl rfl, ⟨.inl rfl, ⟨.inl rfl, ⟨.inl rfl, ⟨.inl rfl, ⟨.inl rfl, trivial⟩⟩⟩⟩⟩⟩⟩⟩⟩⟩⟩⟩⟩⟩⟩⟩⟩⟩⟩⟩⟩⟩⟩⟩⟩⟩, rfl, rfl, rfl, ⟨_, .slnil, (.refl _)⟩, rfl⟩⟩
        · have h := cond_f c8 h
          refine AWp.exit ?_
          obtain rfl := Option.some.inj h
          exact ⟨_, rfl, ⟨⟨.inl rfl, ⟨.inl rfl, ⟨.inl rfl, ⟨.inl rfl, ⟨.inl rfl, ⟨.inl rfl, ⟨.inl rfl, ⟨.inl rfl, ⟨.inl rfl, ⟨.inl rfl, ⟨.inl rfl, ⟨.inl rfl, ⟨.inl rfl, ⟨.inl rfl, ⟨.inl rfl, ⟨.inl rfl, ⟨.inl rfl, ⟨.inl rfl, ⟨.inl rfl, ⟨.inl rfl, ⟨.inl rfl, ⟨.inl rfl, ⟨.inl rfl, ⟨.inl rfl, ⟨.inl rfl, ⟨.inl rfl, trivial⟩⟩⟩⟩⟩⟩⟩⟩⟩⟩⟩⟩⟩⟩⟩⟩⟩⟩⟩⟩⟩⟩⟩⟩⟩⟩, rfl, rfl, rfl, ⟨_, .slnil, (.refl _)⟩, rfl⟩⟩
    · intro s2 s2h
      have h := jk_go s2h k5
      refine AWp.seqX [4] (tg := []) (H := []) (st' := ⟨sp [(4, .bool true)] 0 26, [], [], []⟩) (ob := (True ∧ True)) (by kernel_rfl) ⟨trivial, trivial⟩ ?_
      refine AWp.ret ?_
      obtain rfl := Option.some.inj h
      exact ⟨[.bool true], (True ∧ True), by kernel_rfl, ⟨trivial, trivial⟩, by kernel_rfl, ⟨rfl, rfl, rfl⟩⟩
def ref03_SameTexts_l0_b (a0 : List (List UInt8)) (a1 : List (List UInt8)) (n7 : Nat) (recref03_SameTexts_l0 : Int → Option (J Unit Bool)) (x6 : Int) : Option (J Unit Bool) :=
  cond (decide (x6 < (a0.length : Int))) (
    req (((0 : Int) ≤ x6) ∧ (x6 < (a0.length : Int)) ∧ (x6 < (a1.length : Int))) (
      cond (!((a0.getD (x6 : Int).toNat default) == (a1.getD (x6 : Int).toNat default))) (
        some (J.ret false)) (
        recref03_SameTexts_l0 (IntKind.i64.wrap (x6 + 1))))) (
    some (J.go ()))
def ref03_SameTexts_l0 (a0 : List (List UInt8)) (a1 : List (List UInt8)) : Nat → Int → Option (J Unit Bool)
  | 0, _ => none
  | n + 1, x => ref03_SameTexts_l0_b a0 a1 n (ref03_SameTexts_l0 a0 a1 n) x
def ref03_SameTexts (fuel : Nat) (a0 : List (List UInt8)) (a1 : List (List UInt8)) : Option Bool :=
  cond ((a0.length : Int) != (a1.length : Int)) (
    some false) (
    jn (ref03_SameTexts_l0 a0 a1 fuel (0 : Int)) (fun s2 =>
      some true))
theorem ref03_SameTexts_ok (fuel : Nat) (a0 : List (List UInt8)) (a1 : List (List UInt8)) (r : Bool) (h : ref03_SameTexts fuel a0 a1 = some r) : ACalls Try.prog 25 [.slice 1 (a0.map ceS), .slice 1 (a1.map ceS)] [] (fun q => q = ⟨.bool r, [], [], []⟩) := by
  unfold ref03_SameTexts at h
  refine ACalls.noown ?_
  refine ACalls.intro (fn := Try.f25) Try.func25 rfl ?_
  refine AWp.keep [0, 1] (st' := ⟨sp [(0, .slice 1 (a0.map ceS)), (1, .slice 1 (a1.map ceS))] 0 26, [], [], []⟩) (by kernel_rfl) ?_
  refine AWp.seqX [0, 1] (tg := []) (H := []) (st' := ⟨sp [(0, .slice 1 (a0.map ceS)), (1, .slice 1 (a1.map ceS))] 0 26, [], [], []⟩) (ob := (True ∧ True)) (by kernel_rfl) ⟨trivial, trivial⟩ ?_
  refine AWp.seq ?_
  refine AWp.seqX [0, 1, 10] (tg := []) (H := [(7, .int .i64 (a0.length : Int)), (9, .int .i64 (a1.length : Int))]) (st' := ⟨sp [(0, .slice 1 (a0.map ceS)), (1, .slice 1 (a1.map ceS)), (10, .bool ((a0.length : Int) != (a1.length : Int)))] 0 26, [], [], []⟩) (ob := (True ∧ (((True ∧ True) ∧ ((.int .i64 ((a0.map ceS).length : Int) : DV) = .int .i64 (a0.length : Int))) ∧ (True ∧ (((True ∧ True) ∧ ((.int .i64 ((a1.map ceS).length : Int) : DV) = .int .i64 (a1.length : Int))) ∧ ((True ∧ (True ∧ (IntKind.i64 = IntKind.i64))) ∧ True)))))) (by kernel_rfl) ⟨trivial, ⟨⟨⟨trivial, trivial⟩, (congrArg (fun n : Nat => DV.int .i64 n) (List.length_map _))⟩, ⟨trivial, ⟨⟨⟨trivial, trivial⟩, (congrArg (fun n : Nat => DV.int .i64 n) (List.length_map _))⟩, ⟨⟨trivial, ⟨trivial, rfl⟩⟩, trivial⟩⟩⟩⟩⟩ ?_
  refine AWp.cond (b := (a0.length : Int) != (a1.length : Int)) (by kernel_rfl) trivial (fun c1 => ?_) (fun c1 => ?_)
  · have h := cond_t c1 h
    refine AWp.seqX [4] (tg := []) (H := []) (st' := ⟨sp [(4, .bool false)] 0 26, [], [], []⟩) (ob := (True ∧ True)) (by kernel_rfl) ⟨trivial, trivial⟩ ?_
    refine AWp.ret ?_
    obtain rfl := Option.some.inj h
    exact ⟨[.bool false], (True ∧ True), by kernel_rfl, ⟨trivial, trivial⟩, by kernel_rfl, ⟨rfl, rfl, rfl⟩⟩
  · have h := cond_f c1 h
    refine AWp.skip ?_
    obtain ⟨j4, e3, k5⟩ := jn_some h
    refine AWp.seqSum (σ := Unit) (fun s2 => ⟨sp [] 0 26, [], [], []⟩) (fun s2 => j4 = .go s2) ?_ ?_
    ·
      refine AWp.seqX [0, 1, 5] (tg := []) (H := []) (st' := ⟨sp [(0, .slice 1 (a0.map ceS)), (1, .slice 1 (a1.map ceS)), (5, .int .i64 0)] 0 26, [], [], []⟩) (ob := (True ∧ True)) (by kernel_rfl) ⟨trivial, trivial⟩ ?_
      refine AWp.block ?_
      refine AWp.loop (ι := {p : Nat × (Int) // ref03_SameTexts_l0 a0 a1 p.1 p.2 = some _}) (fun p => ⟨sp [(0, .slice 1 (a0.map ceS)), (1, .slice 1 (a1.map ceS)), (5, .int .i64 p.1.2)] 0 26, [], [], []⟩) (fun p => p.1.1) ⟨(fuel, (0 : Int)), e3⟩ ⟨⟨.inr ⟨rfl, rfl⟩, ⟨.inr ⟨rfl, rfl⟩, ⟨.inl rfl, ⟨.inl rfl, ⟨.inl rfl, ⟨.inr ⟨rfl, rfl⟩, ⟨.inl rfl, ⟨.inl rfl, ⟨.inl rfl, ⟨.inl rfl, ⟨.inl rfl, ⟨.inl rfl, ⟨.inl rfl, ⟨.inl rfl, ⟨.inl rfl, ⟨.inl rfl, ⟨.inl rfl, ⟨.inl rfl, ⟨.inl rfl, ⟨.inl rfl, ⟨.inl rfl, ⟨.inl rfl, ⟨.inl rfl, ⟨.inl rfl, ⟨.inl rfl, ⟨.inl rfl, trivial⟩⟩⟩⟩⟩⟩⟩⟩⟩⟩⟩⟩⟩⟩⟩⟩⟩⟩⟩⟩⟩⟩⟩⟩⟩⟩, rfl, rfl, rfl, ⟨_, .slnil, (.refl _)⟩, rfl⟩ ?_
      rintro ⟨⟨n7, x6⟩, h⟩
      cases n7 with
      | zero => cases h
      | succ n7 =>
        replace h : ref03_SameTexts_l0_b a0 a1 n7 (ref03_SameTexts_l0 a0 a1 n7) x6 = some _ := h
        unfold ref03_SameTexts_l0_b at h
        refine AWp.seq ?_
        refine AWp.seqX [0, 1, 5, 14] (tg := []) (H := [(13, .int .i64 (a0.length : Int))]) (st' := ⟨sp [(0, .slice 1 (a0.map ceS)), (1, .slice 1 (a1.map ceS)), (5, .int .i64 x6), (14, .bool (decide (x6 < (a0.length : Int))))] 0 26, [], [], []⟩) (ob := (True ∧ (True ∧ (((True ∧ True) ∧ ((.int .i64 ((a0.map ceS).length : Int) : DV) = .int .i64 (a0.length : Int))) ∧ ((True ∧ (True ∧ (IntKind.i64 = IntKind.i64))) ∧ True))))) (by kernel_rfl) ⟨trivial, ⟨trivial, ⟨⟨⟨trivial, trivial⟩, (congrArg (fun n : Nat => DV.int .i64 n) (List.length_map _))⟩, ⟨⟨trivial, ⟨trivial, rfl⟩⟩, trivial⟩⟩⟩⟩ ?_
        refine AWp.cond (b := decide (x6 < (a0.length : Int))) (by kernel_rfl) trivial (fun c8 => ?_) (fun c8 => ?_)
        · have h := cond_t c8 h
          refine AWp.skip ?_
          refine AWp.seq ?_
          refine AWp.block ?_
          obtain ⟨⟨o9, o10, o11⟩, h⟩ := req_some h
          refine AWp.seqQ [0, 1, 5, 25] (tg := []) (H := [(19, .cptr [.str (a0.getD (x6 : Int).toNat default)] 0), (23, .cptr [.str (a1.getD (x6 : Int).toNat default)] 0)]) (st' := ⟨sp [(0, .slice 1 (a0.map ceS)), (1, .slice 1 (a1.map ceS)), (5, .int .i64 x6), (25, .bool (!((a0.getD (x6 : Int).toNat default) == (a1.getD (x6 : Int).toNat default))))] 0 26, [], [], []⟩) (ob := (True ∧ (True ∧ (((True ∧ (True ∧ (((0 : Int) ≤ x6) ∧ ((x6 < ((a0.map ceS).length : Int)) ∧ (1 = 1))))) ∧ ((.cptr ((a0.map ceS).getD (x6 : Int).toNat []) 0 : DV) = .cptr [.str (a0.getD (x6 : Int).toNat default)] 0)) ∧ ((True ∧ (0 < 1)) ∧ (True ∧ (True ∧ (((True ∧ (True ∧ (((0 : Int) ≤ x6) ∧ ((x6 < ((a1.map ceS).length : Int)) ∧ (1 = 1))))) ∧ ((.cptr ((a1.map ceS).getD (x6 : Int).toNat []) 0 : DV) = .cptr [.str (a1.getD (x6 : Int).toNat default)] 0)) ∧ ((True ∧ (0 < 1)) ∧ ((True ∧ (True ∧ True)) ∧ True)))))))))) mixed (by kernel_rfl) (by kernel_rfl) ⟨trivial, ⟨trivial, ⟨⟨⟨trivial, ⟨trivial, ⟨o9, ⟨(lt_map o10), rfl⟩⟩⟩⟩, (congrArg (fun c => DV.cptr c 0) (getD_encI ceS a0 (x6 : Int) o9 o10))⟩, ⟨⟨trivial, (by decide)⟩, ⟨trivial, ⟨trivial, ⟨⟨⟨trivial, ⟨trivial, ⟨o9, ⟨(lt_map o11), rfl⟩⟩⟩⟩, (congrArg (fun c => DV.cptr c 0) (getD_encI ceS a1 (x6 : Int) o9 o11))⟩, ⟨⟨trivial, (by decide)⟩, ⟨⟨trivial, ⟨trivial, trivial⟩⟩, trivial⟩⟩⟩⟩⟩⟩⟩⟩⟩ ?_
          refine AWp.cond (b := !((a0.getD (x6 : Int).toNat default) == (a1.getD (x6 : Int).toNat default))) (by kernel_rfl) trivial (fun c12 => ?_) (fun c12 => ?_)
          · have h := cond_t c12 h
            refine AWp.seqX [4] (tg := []) (H := []) (st' := ⟨sp [(4, .bool false)] 0 26, [], [], []⟩) (ob := (True ∧ True)) (by kernel_rfl) ⟨trivial, trivial⟩ ?_
            refine AWp.ret ?_
            have h := jk_some h k5
            obtain rfl := Option.some.inj h
            exact ⟨[.bool false], (True ∧ True), by kernel_rfl, ⟨trivial, trivial⟩, by kernel_rfl, ⟨rfl, rfl, rfl⟩⟩
          · have h := cond_f c12 h
            refine AWp.skip ?_
            refine AWp.tailN [0, 1, 5] [] (tg := [5, 16]) (H := []) (st' := ⟨sp [(0, .slice 1 (a0.map ceS)), (1, .slice 1 (a1.map ceS)), (5, .int .i64 (IntKind.i64.wrap (x6 + 1)))] 0 26, [], [], []⟩) (ob := (True ∧ ((True ∧ (True ∧ (IntKind.i64 = IntKind.i64))) ∧ (True ∧ True)))) (by kernel_rfl) ⟨trivial, ⟨⟨trivial, ⟨trivial, rfl⟩⟩, ⟨trivial, trivial⟩⟩⟩ ?_
            exact ⟨⟨(n7, IntKind.i64.wrap (x6 + 1)), h⟩, Nat.lt_succ_self _, ⟨⟨.inr ⟨rfl, rfl⟩, ⟨.inr ⟨rfl, rfl⟩, ⟨.inl rfl, ⟨.inl rfl, ⟨.inl rfl, ⟨.inr ⟨rfl, rfl⟩, ⟨.inl rfl, ⟨.inl rfl, ⟨.inl rfl, ⟨.inl rfl, ⟨.inl rfl, ⟨.inl rfl, ⟨.inl rfl, ⟨.inl rfl, ⟨.inl rfl, ⟨.inl rfl, ⟨.inl rfl, ⟨.inl rfl, ⟨.inl rfl, ⟨.inl rfl, ⟨.inl rfl, ⟨.inl rfl, ⟨.inl rfl, ⟨.inl rfl, ⟨.inl rfl, ⟨.inl rfl, trivial⟩⟩⟩⟩⟩⟩⟩⟩⟩⟩⟩⟩⟩⟩⟩⟩⟩⟩⟩⟩⟩⟩⟩⟩⟩⟩, rfl, rfl, rfl, ⟨_, .slnil, (.refl _)⟩, rfl⟩⟩
        · have h := cond_f c8 h
          refine AWp.exit ?_
          obtain rfl := Option.some.inj h
          exact ⟨_, rfl, ⟨⟨.inl rfl, ⟨.inl rfl, ⟨.inl rfl, ⟨.inl rfl, ⟨.inl rfl, ⟨.inl rfl, ⟨.inl rfl, ⟨.inl rfl, ⟨.inl rfl, ⟨.inl rfl, ⟨.inl rfl, ⟨.inl rfl, ⟨.inl rfl, ⟨.inl rfl, ⟨.inl rfl, ⟨.inl rfl, ⟨.inl rfl, ⟨.inl rfl, ⟨.inl rfl, ⟨.inl rfl, ⟨.inl rfl, ⟨.inl rfl, ⟨.inl rfl, ⟨.inl rfl, ⟨.inl rfl, ⟨.inl rfl, trivial⟩⟩⟩⟩⟩⟩⟩⟩⟩⟩⟩⟩⟩⟩⟩⟩⟩⟩⟩⟩⟩⟩⟩⟩⟩⟩, rfl, rfl, rfl, ⟨_, .slnil, (.refl _)⟩, rfl⟩⟩
    · intro s2 s2h
      have h := jk_go s2h k5
      refine AWp.seqX [4] (tg := []) (H := []) (st' := ⟨sp [(4, .bool true)] 0 26, [], [], []⟩) (ob := (True ∧ True)) (by kernel_rfl) ⟨trivial, trivial⟩ ?_
      refine AWp.ret ?_
      obtain rfl := Option.some.inj h
      exact ⟨[.bool true], (True ∧ True), by kernel_rfl, ⟨trivial, trivial⟩, by kernel_rfl, ⟨rfl, rfl, rfl⟩⟩
def ref15_Valid_l0_b (a0 : List TVar) (n7 : Nat) (recref15_Valid_l0 : Int → Option (J Unit Int)) (x6 : Int) : Option (J Unit Int) :=
  cond (decide (x6 < (a0.length : Int))) (
    req (((0 : Int) ≤ x6) ∧ (x6 < (a0.length : Int))) (
      (ref01_Name n7 ((a0.getD (x6 : Int).toNat default).fName)).bind (fun r11 =>
        cond (!r11) (
          some (J.ret 10)) (
          cond (decide (4096 < (((a0.getD (x6 : Int).toNat default).fValue).length : Int))) (
            some (J.ret 3)) (
            req (((((cond (!((a0.getD (x6 : Int).toNat default).fSet)) (!(((a0.getD (x6 : Int).toNat default).fValue) == [])) false) == false) && (((cond (!((a0.getD (x6 : Int).toNat default).fSet)) (!(((a0.getD (x6 : Int).toNat default).fValue) == [])) false) == false) && ((decide (0 < x6)) == true))) = true → (0 : Int) ≤ (IntKind.i64.wrap (x6 - 1))) ∧ ((((cond (!((a0.getD (x6 : Int).toNat default).fSet)) (!(((a0.getD (x6 : Int).toNat default).fValue) == [])) false) == false) && (((cond (!((a0.getD (x6 : Int).toNat default).fSet)) (!(((a0.getD (x6 : Int).toNat default).fValue) == [])) false) == false) && ((decide (0 < x6)) == true))) = true → (IntKind.i64.wrap (x6 - 1)) < (a0.length : Int))) (
              cond (cond (cond (!((a0.getD (x6 : Int).toNat default).fSet)) (!(((a0.getD (x6 : Int).toNat default).fValue) == [])) false) true (cond (decide (0 < x6)) (!(Op.bytesLess ((a0.getD (IntKind.i64.wrap (x6 - 1) : Int).toNat default).fName) ((a0.getD (x6 : Int).toNat default).fName))) false)) (
                some (J.ret 1)) (
                recref15_Valid_l0 (IntKind.i64.wrap (x6 + 1))))))))) (
    some (J.go ()))
def ref15_Valid_l0 (a0 : List TVar) : Nat → Int → Option (J Unit Int)
  | 0, _ => none
  | n + 1, x => ref15_Valid_l0_b a0 n (ref15_Valid_l0 a0 n) x
def ref15_Valid (fuel : Nat) (a0 : List TVar) : Option Int :=
  cond (decide (128 < (a0.length : Int))) (
    some 4) (
    jn (ref15_Valid_l0 a0 fuel (0 : Int)) (fun s2 =>
      some 0))
theorem ref15_Valid_ok (fuel : Nat) (a0 : List TVar) (r : Int) (h : ref15_Valid fuel a0 = some r) : ACalls Try.prog 15 [.slice 5 (a0.map encTVar)] [] (fun q => q = ⟨.int .i64 r, [], [], []⟩) := by
  unfold ref15_Valid at h
  refine ACalls.noown ?_
  refine ACalls.intro (fn := Try.f15) Try.func15 rfl ?_
  refine AWp.keep [0] (st' := ⟨sp [(0, .slice 5 (a0.map encTVar))] 0 59, [], [], []⟩) (by kernel_rfl) ?_
  refine AWp.seqX [0] (tg := []) (H := []) (st' := ⟨sp [(0, .slice 5 (a0.map encTVar))] 0 59, [], [], []⟩) (ob := (True ∧ True)) (by kernel_rfl) ⟨trivial, trivial⟩ ?_
  refine AWp.seq ?_
  refine AWp.seqX [0, 6] (tg := []) (H := [(5, .int .i64 (a0.length : Int))]) (st' := ⟨sp [(0, .slice 5 (a0.map encTVar)), (6, .bool (decide (128 < (a0.length : Int))))] 0 59, [], [], []⟩) (ob := (True ∧ (((True ∧ True) ∧ ((.int .i64 ((a0.map encTVar).length : Int) : DV) = .int .i64 (a0.length : Int))) ∧ ((True ∧ (True ∧ (IntKind.i64 = IntKind.i64))) ∧ True)))) (by kernel_rfl) ⟨trivial, ⟨⟨⟨trivial, trivial⟩, (congrArg (fun n : Nat => DV.int .i64 n) (List.length_map _))⟩, ⟨⟨trivial, ⟨trivial, rfl⟩⟩, trivial⟩⟩⟩ ?_
  refine AWp.cond (b := decide (128 < (a0.length : Int))) (by kernel_rfl) trivial (fun c1 => ?_) (fun c1 => ?_)
  · have h := cond_t c1 h
    refine AWp.seqX [2] (tg := []) (H := []) (st' := ⟨sp [(2, .int .i64 4)] 0 59, [], [], []⟩) (ob := (True ∧ True)) (by kernel_rfl) ⟨trivial, trivial⟩ ?_
    refine AWp.ret ?_
    obtain rfl := Option.some.inj h
    exact ⟨[.int .i64 4], (True ∧ True), by kernel_rfl, ⟨trivial, trivial⟩, by kernel_rfl, ⟨rfl, rfl, rfl⟩⟩
  · have h := cond_f c1 h
    refine AWp.skip ?_
    obtain ⟨j4, e3, k5⟩ := jn_some h
    refine AWp.seqSum (σ := Unit) (fun s2 => ⟨sp [] 0 59, [], [], []⟩) (fun s2 => j4 = .go s2) ?_ ?_
    ·
      refine AWp.seqX [0, 3] (tg := []) (H := []) (st' := ⟨sp [(0, .slice 5 (a0.map encTVar)), (3, .int .i64 0)] 0 59, [], [], []⟩) (ob := (True ∧ True)) (by kernel_rfl) ⟨trivial, trivial⟩ ?_
      refine AWp.block ?_
      refine AWp.loop (ι := {p : Nat × (Int) // ref15_Valid_l0 a0 p.1 p.2 = some _}) (fun p => ⟨sp [(0, .slice 5 (a0.map encTVar)), (3, .int .i64 p.1.2)] 0 59, [], [], []⟩) (fun p => p.1.1) ⟨(fuel, (0 : Int)), e3⟩ ⟨⟨.inr ⟨rfl, rfl⟩, ⟨.inl rfl, ⟨.inl rfl, ⟨.inr ⟨rfl, rfl⟩, ⟨.inl rfl, ⟨.inl rfl, ⟨.inl rfl, ⟨.inl rfl, ⟨.inl rfl, ⟨.inl rfl, ⟨.inl rfl, ⟨.inl rfl, ⟨.inl rfl, ⟨.inl rfl, ⟨.inl rfl, ⟨.inl rfl, ⟨.inl rfl, ⟨.inl rfl, ⟨.inl rfl, ⟨.inl rfl, ⟨.inl rfl, ⟨.inl rfl, ⟨.inl rfl, ⟨.inl rfl, ⟨.inl rfl, ⟨.inl rfl, ⟨.inl rfl, ⟨.inl rfl, ⟨.inl rfl, ⟨.inl rfl, ⟨.inl rfl, ⟨.inl rfl, ⟨.inl rfl, ⟨.inl rfl, ⟨.inl rfl, ⟨.inl rfl, ⟨.inl rfl, ⟨.inl rfl, ⟨.inl rfl, ⟨.inl rfl, ⟨.inl rfl, ⟨.inl rfl, ⟨.inl rfl, ⟨.inl rfl, ⟨.inl rfl, ⟨.inl rfl, ⟨.inl rfl, ⟨.inl rfl, ⟨.inl rfl, ⟨.inl rfl, ⟨.inl rfl, ⟨.inl rfl, ⟨.inl rfl, ⟨.inl rfl, ⟨.inl rfl, ⟨.inl rfl, ⟨.inl rfl, ⟨.inl rfl, ⟨.inl rfl, trivial⟩⟩⟩⟩⟩⟩⟩⟩⟩⟩⟩⟩⟩⟩⟩⟩⟩⟩⟩⟩⟩⟩⟩⟩⟩⟩⟩⟩⟩⟩⟩⟩⟩⟩⟩⟩⟩⟩⟩⟩⟩⟩⟩⟩⟩⟩⟩⟩⟩⟩⟩⟩⟩⟩⟩⟩⟩⟩⟩, rfl, rfl, rfl, ⟨_, .slnil, (.refl _)⟩, rfl⟩ ?_
      rintro ⟨⟨n7, x6⟩, h⟩
      cases n7 with
      | zero => cases h
      | succ n7 =>
        replace h : ref15_Valid_l0_b a0 n7 (ref15_Valid_l0 a0 n7) x6 = some _ := h
        unfold ref15_Valid_l0_b at h
        refine AWp.seq ?_
        refine AWp.seqX [0, 3, 10] (tg := []) (H := [(9, .int .i64 (a0.length : Int))]) (st' := ⟨sp [(0, .slice 5 (a0.map encTVar)), (3, .int .i64 x6), (10, .bool (decide (x6 < (a0.length : Int))))] 0 59, [], [], []⟩) (ob := (True ∧ (True ∧ (((True ∧ True) ∧ ((.int .i64 ((a0.map encTVar).length : Int) : DV) = .int .i64 (a0.length : Int))) ∧ ((True ∧ (True ∧ (IntKind.i64 = IntKind.i64))) ∧ True))))) (by kernel_rfl) ⟨trivial, ⟨trivial, ⟨⟨⟨trivial, trivial⟩, (congrArg (fun n : Nat => DV.int .i64 n) (List.length_map _))⟩, ⟨⟨trivial, ⟨trivial, rfl⟩⟩, trivial⟩⟩⟩⟩ ?_
        refine AWp.cond (b := decide (x6 < (a0.length : Int))) (by kernel_rfl) trivial (fun c8 => ?_) (fun c8 => ?_)
        · have h := cond_t c8 h
          refine AWp.skip ?_
          refine AWp.seq ?_
          refine AWp.block ?_
          refine AWp.seq ?_
          refine AWp.seqO ?_
          obtain ⟨⟨o9, o10⟩, h⟩ := req_some h
          refine AOps.runK [0, 3, 17] 5 (tg := []) (H := [(15, .cptr [.str ((a0.getD (x6 : Int).toNat default).fName), .str ((a0.getD (x6 : Int).toNat default).fValue), .bool ((a0.getD (x6 : Int).toNat default).fSet), .bool ((a0.getD (x6 : Int).toNat default).fExport), .bool ((a0.getD (x6 : Int).toNat default).fReadonly)] 0)]) (st' := ⟨sp [(0, .slice 5 (a0.map encTVar)), (3, .int .i64 x6), (17, .str ((a0.getD (x6 : Int).toNat default).fName))] 0 59, [], [], []⟩) (ob := (True ∧ (True ∧ (((True ∧ (True ∧ (((0 : Int) ≤ x6) ∧ ((x6 < ((a0.map encTVar).length : Int)) ∧ (5 = 5))))) ∧ ((.cptr ((a0.map encTVar).getD (x6 : Int).toNat []) 0 : DV) = .cptr [.str ((a0.getD (x6 : Int).toNat default).fName), .str ((a0.getD (x6 : Int).toNat default).fValue), .bool ((a0.getD (x6 : Int).toNat default).fSet), .bool ((a0.getD (x6 : Int).toNat default).fExport), .bool ((a0.getD (x6 : Int).toNat default).fReadonly)] 0)) ∧ ((True ∧ (1 ≠ 0)) ∧ ((True ∧ (0 < 5)) ∧ True)))))) (by kernel_rfl) ⟨trivial, ⟨trivial, ⟨⟨⟨trivial, ⟨trivial, ⟨o9, ⟨(lt_map o10), rfl⟩⟩⟩⟩, (congrArg (fun c => DV.cptr c 0) (getD_encI encTVar a0 (x6 : Int) o9 o10))⟩, ⟨⟨trivial, (by decide)⟩, ⟨⟨trivial, (by decide)⟩, trivial⟩⟩⟩⟩⟩ ?_
          obtain ⟨r11, e12, h⟩ := bind_some h
          refine AOps.call1 (ds := [.str ((a0.getD (x6 : Int).toNat default).fName)]) (d := .bool r11) (ow := []) (st' := ⟨sp [(0, .slice 5 (a0.map encTVar)), (3, .int .i64 x6), (17, .str ((a0.getD (x6 : Int).toNat default).fName)), (18, .bool r11)] 0 59, [], [], []⟩) (by kernel_rfl) fk33 (by kernel_rfl) ⟨trivial, trivial⟩ (by kernel_rfl) (ref01_Name_ok n7 ((a0.getD (x6 : Int).toNat default).fName) r11 e12) (by kernel_rfl) ?_
          refine AOps.runK [0, 3, 19] 1 (tg := []) (H := []) (st' := ⟨sp [(0, .slice 5 (a0.map encTVar)), (3, .int .i64 x6), (19, .bool (!r11))] 0 59, [], [], []⟩) (ob := (True ∧ True)) (by kernel_rfl) ⟨trivial, trivial⟩ ?_
          refine AOps.done ?_
          refine AWp.cond (b := !r11) (by kernel_rfl) trivial (fun c13 => ?_) (fun c13 => ?_)
          · have h := cond_t c13 h
            refine AWp.seqX [2] (tg := []) (H := []) (st' := ⟨sp [(2, .int .i64 10)] 0 59, [], [], []⟩) (ob := (True ∧ True)) (by kernel_rfl) ⟨trivial, trivial⟩ ?_
            refine AWp.ret ?_
            have h := jk_some h k5
            obtain rfl := Option.some.inj h
            exact ⟨[.int .i64 10], (True ∧ True), by kernel_rfl, ⟨trivial, trivial⟩, by kernel_rfl, ⟨rfl, rfl, rfl⟩⟩
          · have h := cond_f c13 h
            refine AWp.skip ?_
            refine AWp.seq ?_
            refine AWp.seqX [0, 3, 26] (tg := []) (H := [(22, .cptr [.str ((a0.getD (x6 : Int).toNat default).fName), .str ((a0.getD (x6 : Int).toNat default).fValue), .bool ((a0.getD (x6 : Int).toNat default).fSet), .bool ((a0.getD (x6 : Int).toNat default).fExport), .bool ((a0.getD (x6 : Int).toNat default).fReadonly)] 0)]) (st' := ⟨sp [(0, .slice 5 (a0.map encTVar)), (3, .int .i64 x6), (26, .bool (decide (4096 < (((a0.getD (x6 : Int).toNat default).fValue).length : Int))))] 0 59, [], [], []⟩) (ob := (True ∧ (True ∧ (((True ∧ (True ∧ (((0 : Int) ≤ x6) ∧ ((x6 < ((a0.map encTVar).length : Int)) ∧ (5 = 5))))) ∧ ((.cptr ((a0.map encTVar).getD (x6 : Int).toNat []) 0 : DV) = .cptr [.str ((a0.getD (x6 : Int).toNat default).fName), .str ((a0.getD (x6 : Int).toNat default).fValue), .bool ((a0.getD (x6 : Int).toNat default).fSet), .bool ((a0.getD (x6 : Int).toNat default).fExport), .bool ((a0.getD (x6 : Int).toNat default).fReadonly)] 0)) ∧ ((True ∧ (1 ≠ 0)) ∧ ((True ∧ (1 < 5)) ∧ ((True ∧ True) ∧ ((True ∧ (True ∧ (IntKind.i64 = IntKind.i64))) ∧ True)))))))) (by kernel_rfl) ⟨trivial, ⟨trivial, ⟨⟨⟨trivial, ⟨trivial, ⟨o9, ⟨(lt_map o10), rfl⟩⟩⟩⟩, (congrArg (fun c => DV.cptr c 0) (getD_encI encTVar a0 (x6 : Int) o9 o10))⟩, ⟨⟨trivial, (by decide)⟩, ⟨⟨trivial, (by decide)⟩, ⟨⟨trivial, trivial⟩, ⟨⟨trivial, ⟨trivial, rfl⟩⟩, trivial⟩⟩⟩⟩⟩⟩⟩ ?_
            refine AWp.cond (b := decide (4096 < (((a0.getD (x6 : Int).toNat default).fValue).length : Int))) (by kernel_rfl) trivial (fun c14 => ?_) (fun c14 => ?_)
            · have h := cond_t c14 h
              refine AWp.seqX [2] (tg := []) (H := []) (st' := ⟨sp [(2, .int .i64 3)] 0 59, [], [], []⟩) (ob := (True ∧ True)) (by kernel_rfl) ⟨trivial, trivial⟩ ?_
              refine AWp.ret ?_
              have h := jk_some h k5
              obtain rfl := Option.some.inj h
              exact ⟨[.int .i64 3], (True ∧ True), by kernel_rfl, ⟨trivial, trivial⟩, by kernel_rfl, ⟨rfl, rfl, rfl⟩⟩
            · have h := cond_f c14 h
              refine AWp.skip ?_
              obtain ⟨⟨o15, o16⟩, h⟩ := req_some h
              refine AWp.seqQ [0, 3, 58] (tg := []) (H := [(29, .cptr [.str ((a0.getD (x6 : Int).toNat default).fName), .str ((a0.getD (x6 : Int).toNat default).fValue), .bool ((a0.getD (x6 : Int).toNat default).fSet), .bool ((a0.getD (x6 : Int).toNat default).fExport), .bool ((a0.getD (x6 : Int).toNat default).fReadonly)] 0), (36, .cptr [.str ((a0.getD (x6 : Int).toNat default).fName), .str ((a0.getD (x6 : Int).toNat default).fValue), .bool ((a0.getD (x6 : Int).toNat default).fSet), .bool ((a0.getD (x6 : Int).toNat default).fExport), .bool ((a0.getD (x6 : Int).toNat default).fReadonly)] 0), (48, .cptr [.str ((a0.getD (IntKind.i64.wrap (x6 - 1) : Int).toNat default).fName), .str ((a0.getD (IntKind.i64.wrap (x6 - 1) : Int).toNat default).fValue), .bool ((a0.getD (IntKind.i64.wrap (x6 - 1) : Int).toNat default).fSet), .bool ((a0.getD (IntKind.i64.wrap (x6 - 1) : Int).toNat default).fExport), .bool ((a0.getD (IntKind.i64.wrap (x6 - 1) : Int).toNat default).fReadonly)] 0), (53, .cptr [.str ((a0.getD (x6 : Int).toNat default).fName), .str ((a0.getD (x6 : Int).toNat default).fValue), .bool ((a0.getD (x6 : Int).toNat default).fSet), .bool ((a0.getD (x6 : Int).toNat default).fExport), .bool ((a0.getD (x6 : Int).toNat default).fReadonly)] 0)]) (st' := ⟨sp [(0, .slice 5 (a0.map encTVar)), (3, .int .i64 x6), (58, .bool (cond (cond (!((a0.getD (x6 : Int).toNat default).fSet)) (!(((a0.getD (x6 : Int).toNat default).fValue) == [])) false) true (cond (decide (0 < x6)) (!(Op.bytesLess ((a0.getD (IntKind.i64.wrap (x6 - 1) : Int).toNat default).fName) ((a0.getD (x6 : Int).toNat default).fName))) false)))] 0 59, [], [], []⟩) (ob := (True ∧ (True ∧ (((True ∧ (True ∧ (((0 : Int) ≤ x6) ∧ ((x6 < ((a0.map encTVar).length : Int)) ∧ (5 = 5))))) ∧ ((.cptr ((a0.map encTVar).getD (x6 : Int).toNat []) 0 : DV) = .cptr [.str ((a0.getD (x6 : Int).toNat default).fName), .str ((a0.getD (x6 : Int).toNat default).fValue), .bool ((a0.getD (x6 : Int).toNat default).fSet), .bool ((a0.getD (x6 : Int).toNat default).fExport), .bool ((a0.getD (x6 : Int).toNat default).fReadonly)] 0)) ∧ ((True ∧ (1 ≠ 0)) ∧ ((True ∧ (2 < 5)) ∧ (True ∧ (True ∧ ((((!((a0.getD (x6 : Int).toNat default).fSet)) == true) = true → True) ∧ ((((!((a0.getD (x6 : Int).toNat default).fSet)) == true) = true → True) ∧ ((((!((a0.getD (x6 : Int).toNat default).fSet)) == true) = true → ((((((!((a0.getD (x6 : Int).toNat default).fSet)) == true) = true) ∧ True) ∧ (((((!((a0.getD (x6 : Int).toNat default).fSet)) == true) = true) ∧ True) ∧ (((0 : Int) ≤ x6) ∧ ((x6 < ((a0.map encTVar).length : Int)) ∧ (5 = 5))))) ∧ ((.cptr ((a0.map encTVar).getD (x6 : Int).toNat []) 0 : DV) = .cptr [.str ((a0.getD (x6 : Int).toNat default).fName), .str ((a0.getD (x6 : Int).toNat default).fValue), .bool ((a0.getD (x6 : Int).toNat default).fSet), .bool ((a0.getD (x6 : Int).toNat default).fExport), .bool ((a0.getD (x6 : Int).toNat default).fReadonly)] 0))) ∧ ((((!((a0.getD (x6 : Int).toNat default).fSet)) == true) = true → (((((!((a0.getD (x6 : Int).toNat default).fSet)) == true) = true) ∧ True) ∧ (1 ≠ 0))) ∧ ((((!((a0.getD (x6 : Int).toNat default).fSet)) == true) = true → (((((!((a0.getD (x6 : Int).toNat default).fSet)) == true) = true) ∧ True) ∧ (1 < 5))) ∧ ((((!((a0.getD (x6 : Int).toNat default).fSet)) == true) = true → (((((!((a0.getD (x6 : Int).toNat default).fSet)) == true) = true) ∧ True) ∧ (True ∧ True))) ∧ ((True ∧ (((!((a0.getD (x6 : Int).toNat default).fSet)) = true → ((((!((a0.getD (x6 : Int).toNat default).fSet)) == true) = true) ∧ True)) ∧ ((!((a0.getD (x6 : Int).toNat default).fSet)) = false → True))) ∧ (True ∧ ((((cond (!((a0.getD (x6 : Int).toNat default).fSet)) (!(((a0.getD (x6 : Int).toNat default).fValue) == [])) false) == false) = true → True) ∧ ((((cond (!((a0.getD (x6 : Int).toNat default).fSet)) (!(((a0.getD (x6 : Int).toNat default).fValue) == [])) false) == false) = true → (((((cond (!((a0.getD (x6 : Int).toNat default).fSet)) (!(((a0.getD (x6 : Int).toNat default).fValue) == [])) false) == false) = true) ∧ True) ∧ (True ∧ (IntKind.i64 = IntKind.i64)))) ∧ ((((cond (!((a0.getD (x6 : Int).toNat default).fSet)) (!(((a0.getD (x6 : Int).toNat default).fValue) == [])) false) == false) = true → True) ∧ (((((cond (!((a0.getD (x6 : Int).toNat default).fSet)) (!(((a0.getD (x6 : Int).toNat default).fValue) == [])) false) == false) && (((cond (!((a0.getD (x6 : Int).toNat default).fSet)) (!(((a0.getD (x6 : Int).toNat default).fValue) == [])) false) == false) && ((decide (0 < x6)) == true))) = true → True) ∧ (((((cond (!((a0.getD (x6 : Int).toNat default).fSet)) (!(((a0.getD (x6 : Int).toNat default).fValue) == [])) false) == false) && (((cond (!((a0.getD (x6 : Int).toNat default).fSet)) (!(((a0.getD (x6 : Int).toNat default).fValue) == [])) false) == false) && ((decide (0 < x6)) == true))) = true → True) ∧ (((((cond (!((a0.getD (x6 : Int).toNat default).fSet)) (!(((a0.getD (x6 : Int).toNat default).fValue) == [])) false) == false) && (((cond (!((a0.getD (x6 : Int).toNat default).fSet)) (!(((a0.getD (x6 : Int).toNat default).fValue) == [])) false) == false) && ((decide (0 < x6)) == true))) = true → ((((((cond (!((a0.getD (x6 : Int).toNat default).fSet)) (!(((a0.getD (x6 : Int).toNat default).fValue) == [])) false) == false) && (((cond (!((a0.getD (x6 : Int).toNat default).fSet)) (!(((a0.getD (x6 : Int).toNat default).fValue) == [])) false) == false) && ((decide (0 < x6)) == true))) = true) ∧ True) ∧ (True ∧ (IntKind.i64 = IntKind.i64)))) ∧ (((((cond (!((a0.getD (x6 : Int).toNat default).fSet)) (!(((a0.getD (x6 : Int).toNat default).fValue) == [])) false) == false) && (((cond (!((a0.getD (x6 : Int).toNat default).fSet)) (!(((a0.getD (x6 : Int).toNat default).fValue) == [])) false) == false) && ((decide (0 < x6)) == true))) = true → (((((((cond (!((a0.getD (x6 : Int).toNat default).fSet)) (!(((a0.getD (x6 : Int).toNat default).fValue) == [])) false) == false) && (((cond (!((a0.getD (x6 : Int).toNat default).fSet)) (!(((a0.getD (x6 : Int).toNat default).fValue) == [])) false) == false) && ((decide (0 < x6)) == true))) = true) ∧ True) ∧ ((((((cond (!((a0.getD (x6 : Int).toNat default).fSet)) (!(((a0.getD (x6 : Int).toNat default).fValue) == [])) false) == false) && (((cond (!((a0.getD (x6 : Int).toNat default).fSet)) (!(((a0.getD (x6 : Int).toNat default).fValue) == [])) false) == false) && ((decide (0 < x6)) == true))) = true) ∧ True) ∧ (((0 : Int) ≤ (IntKind.i64.wrap (x6 - 1))) ∧ (((IntKind.i64.wrap (x6 - 1)) < ((a0.map encTVar).length : Int)) ∧ (5 = 5))))) ∧ ((.cptr ((a0.map encTVar).getD (IntKind.i64.wrap (x6 - 1) : Int).toNat []) 0 : DV) = .cptr [.str ((a0.getD (IntKind.i64.wrap (x6 - 1) : Int).toNat default).fName), .str ((a0.getD (IntKind.i64.wrap (x6 - 1) : Int).toNat default).fValue), .bool ((a0.getD (IntKind.i64.wrap (x6 - 1) : Int).toNat default).fSet), .bool ((a0.getD (IntKind.i64.wrap (x6 - 1) : Int).toNat default).fExport), .bool ((a0.getD (IntKind.i64.wrap (x6 - 1) : Int).toNat default).fReadonly)] 0))) ∧ (((((cond (!((a0.getD (x6 : Int).toNat default).fSet)) (!(((a0.getD (x6 : Int).toNat default).fValue) == [])) false) == false) && (((cond (!((a0.getD (x6 : Int).toNat default).fSet)) (!(((a0.getD (x6 : Int).toNat default).fValue) == [])) false) == false) && ((decide (0 < x6)) == true))) = true → ((((((cond (!((a0.getD (x6 : Int).toNat default).fSet)) (!(((a0.getD (x6 : Int).toNat default).fValue) == [])) false) == false) && (((cond (!((a0.getD (x6 : Int).toNat default).fSet)) (!(((a0.getD (x6 : Int).toNat default).fValue) == [])) false) == false) && ((decide (0 < x6)) == true))) = true) ∧ True) ∧ (1 ≠ 0))) ∧ (((((cond (!((a0.getD (x6 : Int).toNat default).fSet)) (!(((a0.getD (x6 : Int).toNat default).fValue) == [])) false) == false) && (((cond (!((a0.getD (x6 : Int).toNat default).fSet)) (!(((a0.getD (x6 : Int).toNat default).fValue) == [])) false) == false) && ((decide (0 < x6)) == true))) = true → ((((((cond (!((a0.getD (x6 : Int).toNat default).fSet)) (!(((a0.getD (x6 : Int).toNat default).fValue) == [])) false) == false) && (((cond (!((a0.getD (x6 : Int).toNat default).fSet)) (!(((a0.getD (x6 : Int).toNat default).fValue) == [])) false) == false) && ((decide (0 < x6)) == true))) = true) ∧ True) ∧ (0 < 5))) ∧ (((((cond (!((a0.getD (x6 : Int).toNat default).fSet)) (!(((a0.getD (x6 : Int).toNat default).fValue) == [])) false) == false) && (((cond (!((a0.getD (x6 : Int).toNat default).fSet)) (!(((a0.getD (x6 : Int).toNat default).fValue) == [])) false) == false) && ((decide (0 < x6)) == true))) = true → True) ∧ (((((cond (!((a0.getD (x6 : Int).toNat default).fSet)) (!(((a0.getD (x6 : Int).toNat default).fValue) == [])) false) == false) && (((cond (!((a0.getD (x6 : Int).toNat default).fSet)) (!(((a0.getD (x6 : Int).toNat default).fValue) == [])) false) == false) && ((decide (0 < x6)) == true))) = true → True) ∧ (((((cond (!((a0.getD (x6 : Int).toNat default).fSet)) (!(((a0.getD (x6 : Int).toNat default).fValue) == [])) false) == false) && (((cond (!((a0.getD (x6 : Int).toNat default).fSet)) (!(((a0.getD (x6 : Int).toNat default).fValue) == [])) false) == false) && ((decide (0 < x6)) == true))) = true → (((((((cond (!((a0.getD (x6 : Int).toNat default).fSet)) (!(((a0.getD (x6 : Int).toNat default).fValue) == [])) false) == false) && (((cond (!((a0.getD (x6 : Int).toNat default).fSet)) (!(((a0.getD (x6 : Int).toNat default).fValue) == [])) false) == false) && ((decide (0 < x6)) == true))) = true) ∧ True) ∧ ((((((cond (!((a0.getD (x6 : Int).toNat default).fSet)) (!(((a0.getD (x6 : Int).toNat default).fValue) == [])) false) == false) && (((cond (!((a0.getD (x6 : Int).toNat default).fSet)) (!(((a0.getD (x6 : Int).toNat default).fValue) == [])) false) == false) && ((decide (0 < x6)) == true))) = true) ∧ True) ∧ (((0 : Int) ≤ x6) ∧ ((x6 < ((a0.map encTVar).length : Int)) ∧ (5 = 5))))) ∧ ((.cptr ((a0.map encTVar).getD (x6 : Int).toNat []) 0 : DV) = .cptr [.str ((a0.getD (x6 : Int).toNat default).fName), .str ((a0.getD (x6 : Int).toNat default).fValue), .bool ((a0.getD (x6 : Int).toNat default).fSet), .bool ((a0.getD (x6 : Int).toNat default).fExport), .bool ((a0.getD (x6 : Int).toNat default).fReadonly)] 0))) ∧ (((((cond (!((a0.getD (x6 : Int).toNat default).fSet)) (!(((a0.getD (x6 : Int).toNat default).fValue) == [])) false) == false) && (((cond (!((a0.getD (x6 : Int).toNat default).fSet)) (!(((a0.getD (x6 : Int).toNat default).fValue) == [])) false) == false) && ((decide (0 < x6)) == true))) = true → ((((((cond (!((a0.getD (x6 : Int).toNat default).fSet)) (!(((a0.getD (x6 : Int).toNat default).fValue) == [])) false) == false) && (((cond (!((a0.getD (x6 : Int).toNat default).fSet)) (!(((a0.getD (x6 : Int).toNat default).fValue) == [])) false) == false) && ((decide (0 < x6)) == true))) = true) ∧ True) ∧ (1 ≠ 0))) ∧ (((((cond (!((a0.getD (x6 : Int).toNat default).fSet)) (!(((a0.getD (x6 : Int).toNat default).fValue) == [])) false) == false) && (((cond (!((a0.getD (x6 : Int).toNat default).fSet)) (!(((a0.getD (x6 : Int).toNat default).fValue) == [])) false) == false) && ((decide (0 < x6)) == true))) = true → ((((((cond (!((a0.getD (x6 : Int).toNat default).fSet)) (!(((a0.getD (x6 : Int).toNat default).fValue) == [])) false) == false) && (((cond (!((a0.getD (x6 : Int).toNat default).fSet)) (!(((a0.getD (x6 : Int).toNat default).fValue) == [])) false) == false) && ((decide (0 < x6)) == true))) = true) ∧ True) ∧ (0 < 5))) ∧ (((((cond (!((a0.getD (x6 : Int).toNat default).fSet)) (!(((a0.getD (x6 : Int).toNat default).fValue) == [])) false) == false) && (((cond (!((a0.getD (x6 : Int).toNat default).fSet)) (!(((a0.getD (x6 : Int).toNat default).fValue) == [])) false) == false) && ((decide (0 < x6)) == true))) = true → ((((((cond (!((a0.getD (x6 : Int).toNat default).fSet)) (!(((a0.getD (x6 : Int).toNat default).fValue) == [])) false) == false) && (((cond (!((a0.getD (x6 : Int).toNat default).fSet)) (!(((a0.getD (x6 : Int).toNat default).fValue) == [])) false) == false) && ((decide (0 < x6)) == true))) = true) ∧ True) ∧ ((((((cond (!((a0.getD (x6 : Int).toNat default).fSet)) (!(((a0.getD (x6 : Int).toNat default).fValue) == [])) false) == false) && (((cond (!((a0.getD (x6 : Int).toNat default).fSet)) (!(((a0.getD (x6 : Int).toNat default).fValue) == [])) false) == false) && ((decide (0 < x6)) == true))) = true) ∧ True) ∧ True))) ∧ ((((cond (!((a0.getD (x6 : Int).toNat default).fSet)) (!(((a0.getD (x6 : Int).toNat default).fValue) == [])) false) == false) = true → (((((cond (!((a0.getD (x6 : Int).toNat default).fSet)) (!(((a0.getD (x6 : Int).toNat default).fValue) == [])) false) == false) = true) ∧ ((((cond (!((a0.getD (x6 : Int).toNat default).fSet)) (!(((a0.getD (x6 : Int).toNat default).fValue) == [])) false) == false) = true) ∧ True)) ∧ (((decide (0 < x6)) = true → (((((cond (!((a0.getD (x6 : Int).toNat default).fSet)) (!(((a0.getD (x6 : Int).toNat default).fValue) == [])) false) == false) && (((cond (!((a0.getD (x6 : Int).toNat default).fSet)) (!(((a0.getD (x6 : Int).toNat default).fValue) == [])) false) == false) && ((decide (0 < x6)) == true))) = true) ∧ True)) ∧ ((decide (0 < x6)) = false → True)))) ∧ ((True ∧ (((cond (!((a0.getD (x6 : Int).toNat default).fSet)) (!(((a0.getD (x6 : Int).toNat default).fValue) == [])) false) = true → True) ∧ ((cond (!((a0.getD (x6 : Int).toNat default).fSet)) (!(((a0.getD (x6 : Int).toNat default).fValue) == [])) false) = false → ((((cond (!((a0.getD (x6 : Int).toNat default).fSet)) (!(((a0.getD (x6 : Int).toNat default).fValue) == [])) false) == false) = true) ∧ True)))) ∧ True))))))))))))))))))))))))))))))))) mixed (by kernel_rfl) (by kernel_rfl) ⟨trivial, ⟨trivial, ⟨⟨⟨trivial, ⟨trivial, ⟨o9, ⟨(lt_map o10), rfl⟩⟩⟩⟩, (congrArg (fun c => DV.cptr c 0) (getD_encI encTVar a0 (x6 : Int) o9 o10))⟩, ⟨⟨trivial, (by decide)⟩, ⟨⟨trivial, (by decide)⟩, ⟨trivial, ⟨trivial, ⟨(fun hg0 => trivial), ⟨(fun hg0 => trivial), ⟨(fun hg0 => ⟨⟨⟨hg0, trivial⟩, ⟨⟨hg0, trivial⟩, ⟨((fun _ => o9) hg0), ⟨(lt_map ((fun _ => o10) hg0)), rfl⟩⟩⟩⟩, (congrArg (fun c => DV.cptr c 0) (getD_encI encTVar a0 (x6 : Int) ((fun _ => o9) hg0) ((fun _ => o10) hg0)))⟩), ⟨(fun hg0 => ⟨⟨hg0, trivial⟩, (by decide)⟩), ⟨(fun hg0 => ⟨⟨hg0, trivial⟩, (by decide)⟩), ⟨(fun hg0 => ⟨⟨hg0, trivial⟩, ⟨trivial, trivial⟩⟩), ⟨⟨trivial, ⟨(fun hg0 => ⟨(beqT hg0), trivial⟩), (fun hg0 => trivial)⟩⟩, ⟨trivial, ⟨(fun hg0 => trivial), ⟨(fun hg0 => ⟨⟨hg0, trivial⟩, ⟨trivial, rfl⟩⟩), ⟨(fun hg0 => trivial), ⟨(fun hg0 => trivial), ⟨(fun hg0 => trivial), ⟨(fun hg0 => ⟨⟨hg0, trivial⟩, ⟨trivial, rfl⟩⟩), ⟨(fun hg0 => ⟨⟨⟨hg0, trivial⟩, ⟨⟨hg0, trivial⟩, ⟨(o15 hg0), ⟨(lt_map (o16 hg0)), rfl⟩⟩⟩⟩, (congrArg (fun c => DV.cptr c 0) (getD_encI encTVar a0 (IntKind.i64.wrap (x6 - 1) : Int) (o15 hg0) (o16 hg0)))⟩), ⟨(fun hg0 => ⟨⟨hg0, trivial⟩, (by decide)⟩), ⟨(fun hg0 => ⟨⟨hg0, trivial⟩, (by decide)⟩), ⟨(fun hg0 => trivial), ⟨(fun hg0 => trivial), ⟨(fun hg0 => ⟨⟨⟨hg0, trivial⟩, ⟨⟨hg0, trivial⟩, ⟨((fun _ => o9) hg0), ⟨(lt_map ((fun _ => o10) hg0)), rfl⟩⟩⟩⟩, (congrArg (fun c => DV.cptr c 0) (getD_encI encTVar a0 (x6 : Int) ((fun _ => o9) hg0) ((fun _ => o10) hg0)))⟩), ⟨(fun hg0 => ⟨⟨hg0, trivial⟩, (by decide)⟩), ⟨(fun hg0 => ⟨⟨hg0, trivial⟩, (by decide)⟩), ⟨(fun hg0 => ⟨⟨hg0, trivial⟩, ⟨⟨hg0, trivial⟩, trivial⟩⟩), ⟨(fun hg0 => ⟨⟨hg0, ⟨hg0, trivial⟩⟩, ⟨(fun hg1 => ⟨(andI hg0 (andI hg0 (beqT hg1))), trivial⟩), (fun hg1 => trivial)⟩⟩), ⟨⟨trivial, ⟨(fun hg0 => trivial), (fun hg0 => ⟨(beqF hg0), trivial⟩)⟩⟩, trivial⟩⟩⟩⟩⟩⟩⟩⟩⟩⟩⟩⟩⟩⟩⟩⟩⟩⟩⟩⟩⟩⟩⟩⟩⟩⟩⟩⟩⟩⟩⟩⟩ ?_
              refine AWp.cond (b := cond (cond (!((a0.getD (x6 : Int).toNat default).fSet)) (!(((a0.getD (x6 : Int).toNat default).fValue) == [])) false) true (cond (decide (0 < x6)) (!(Op.bytesLess ((a0.getD (IntKind.i64.wrap (x6 - 1) : Int).toNat default).fName) ((a0.getD (x6 : Int).toNat default).fName))) false)) (by kernel_rfl) trivial (fun c17 => ?_) (fun c17 => ?_)
              · have h := cond_t c17 h
                refine AWp.seqX [2] (tg := []) (H := []) (st' := ⟨sp [(2, .int .i64 1)] 0 59, [], [], []⟩) (ob := (True ∧ True)) (by kernel_rfl) ⟨trivial, trivial⟩ ?_
                refine AWp.ret ?_
                have h := jk_some h k5
                obtain rfl := Option.some.inj h
                exact ⟨[.int .i64 1], (True ∧ True), by kernel_rfl, ⟨trivial, trivial⟩, by kernel_rfl, ⟨rfl, rfl, rfl⟩⟩
              · have h := cond_f c17 h
                refine AWp.skip ?_
                refine AWp.tailN [0, 3] [] (tg := [3, 12]) (H := []) (st' := ⟨sp [(0, .slice 5 (a0.map encTVar)), (3, .int .i64 (IntKind.i64.wrap (x6 + 1)))] 0 59, [], [], []⟩) (ob := (True ∧ ((True ∧ (True ∧ (IntKind.i64 = IntKind.i64))) ∧ (True ∧ True)))) (by kernel_rfl) ⟨trivial, ⟨⟨trivial, ⟨trivial, rfl⟩⟩, ⟨trivial, trivial⟩⟩⟩ ?_
                exact ⟨⟨(n7, IntKind.i64.wrap (x6 + 1)), h⟩, Nat.lt_succ_self _, ⟨⟨.inr ⟨rfl, rfl⟩, ⟨.inl rfl, ⟨.inl rfl, ⟨.inr ⟨rfl, rfl⟩, ⟨.inl rfl, ⟨.inl rfl, ⟨.inl rfl, ⟨.inl rfl, ⟨.inl rfl, ⟨.inl rfl, ⟨.inl rfl, ⟨.inl rfl, ⟨.inl rfl, ⟨.inl rfl, ⟨.inl rfl, ⟨.inl rfl, ⟨.inl rfl, ⟨.inl rfl, ⟨.inl rfl, ⟨.inl rfl, ⟨.inl rfl, ⟨.inl rfl, ⟨.inl rfl, ⟨.inl rfl, ⟨.inl rfl, ⟨.inl rfl, ⟨.inl rfl, ⟨.inl rfl, ⟨.inl rfl, ⟨.inl rfl, ⟨.inl rfl, ⟨.inl rfl, ⟨.inl rfl, ⟨.inl rfl, ⟨.inl rfl, ⟨.inl rfl, ⟨.inl rfl, ⟨.inl rfl, ⟨.inl rfl, ⟨.inl rfl, ⟨.inl rfl, ⟨.inl rfl, ⟨.inl rfl, ⟨.inl rfl, ⟨.inl rfl, ⟨.inl rfl, ⟨.inl rfl, ⟨.inl rfl, ⟨.inl rfl, ⟨.inl rfl, ⟨.inl rfl, ⟨.inl rfl, ⟨.inl rfl, ⟨.inl rfl, ⟨.inl rfl, ⟨.inl rfl, ⟨.inl rfl, ⟨.inl rfl, ⟨.inl rfl, trivial⟩⟩⟩⟩⟩⟩⟩⟩⟩⟩⟩⟩⟩⟩⟩⟩⟩⟩⟩⟩⟩⟩⟩⟩⟩⟩⟩⟩⟩⟩⟩⟩⟩⟩⟩⟩⟩⟩⟩⟩⟩⟩⟩⟩⟩⟩⟩⟩⟩⟩⟩⟩⟩⟩⟩⟩⟩⟩⟩, rfl, rfl, rfl, ⟨_, .slnil, (.refl _)⟩, rfl⟩⟩
        · have h := cond_f c8 h
          refine AWp.exit ?_
          obtain rfl := Option.some.inj h
          exact ⟨_, rfl, ⟨⟨.inl rfl, ⟨.inl rfl, ⟨.inl rfl, ⟨.inl rfl, ⟨.inl rfl, ⟨.inl rfl, ⟨.inl rfl, ⟨.inl rfl, ⟨.inl rfl, ⟨.inl rfl, ⟨.inl rfl, ⟨.inl rfl, ⟨.inl rfl, ⟨.inl rfl, ⟨.inl rfl, ⟨.inl rfl, ⟨.inl rfl, ⟨.inl rfl, ⟨.inl rfl, ⟨.inl rfl, ⟨.inl rfl, ⟨.inl rfl, ⟨.inl rfl, ⟨.inl rfl, ⟨.inl rfl, ⟨.inl rfl, ⟨.inl rfl, ⟨.inl rfl, ⟨.inl rfl, ⟨.inl rfl, ⟨.inl rfl, ⟨.inl rfl, ⟨.inl rfl, ⟨.inl rfl, ⟨.inl rfl, ⟨.inl rfl, ⟨.inl rfl, ⟨.inl rfl, ⟨.inl rfl, ⟨.inl rfl, ⟨.inl rfl, ⟨.inl rfl, ⟨.inl rfl, ⟨.inl rfl, ⟨.inl rfl, ⟨.inl rfl, ⟨.inl rfl, ⟨.inl rfl, ⟨.inl rfl, ⟨.inl rfl, ⟨.inl rfl, ⟨.inl rfl, ⟨.inl rfl, ⟨.inl rfl, ⟨.inl rfl, ⟨.inl rfl, ⟨.inl rfl, ⟨.inl rfl, ⟨.inl rfl, trivial⟩⟩⟩⟩⟩⟩⟩⟩⟩⟩⟩⟩⟩⟩⟩⟩⟩⟩⟩⟩⟩⟩⟩⟩⟩⟩⟩⟩⟩⟩⟩⟩⟩⟩⟩⟩⟩⟩⟩⟩⟩⟩⟩⟩⟩⟩⟩⟩⟩⟩⟩⟩⟩⟩⟩⟩⟩⟩⟩, rfl, rfl, rfl, ⟨_, .slnil, (.refl _)⟩, rfl⟩⟩
    · intro s2 s2h
      have h := jk_go s2h k5
      refine AWp.seqX [2] (tg := []) (H := []) (st' := ⟨sp [(2, .int .i64 0)] 0 59, [], [], []⟩) (ob := (True ∧ True)) (by kernel_rfl) ⟨trivial, trivial⟩ ?_
      refine AWp.ret ?_
      obtain rfl := Option.some.inj h
      exact ⟨[.int .i64 0], (True ∧ True), by kernel_rfl, ⟨trivial, trivial⟩, by kernel_rfl, ⟨rfl, rfl, rfl⟩⟩
def vars_Valid_l0_b (a0 : List TVar) (n7 : Nat) (recvars_Valid_l0 : Int → Option (J Unit Int)) (x6 : Int) : Option (J Unit Int) :=
  cond (decide (x6 < (a0.length : Int))) (
    req (((0 : Int) ≤ x6) ∧ (x6 < (a0.length : Int))) (
      (chars_Name n7 ((a0.getD (x6 : Int).toNat default).fName)).bind (fun r11 =>
        cond (!r11) (
          some (J.ret 10)) (
          cond (decide (4096 < (((a0.getD (x6 : Int).toNat default).fValue).length : Int))) (
            some (J.ret 3)) (
            (cond (cond (!((a0.getD (x6 : Int).toNat default).fSet)) (!(((a0.getD (x6 : Int).toNat default).fValue) == [])) false) (
                some (cond (!((a0.getD (x6 : Int).toNat default).fSet)) (!(((a0.getD (x6 : Int).toNat default).fValue) == [])) false)) (
                req ((((decide (0 < x6)) == true) = true → (0 : Int) ≤ (IntKind.i64.wrap (x6 - 1))) ∧ (((decide (0 < x6)) == true) = true → (IntKind.i64.wrap (x6 - 1)) < (a0.length : Int))) (
                  some (cond (decide (0 < x6)) (Op.bytesLess ((a0.getD (x6 : Int).toNat default).fName) ((a0.getD (IntKind.i64.wrap (x6 - 1) : Int).toNat default).fName) || ((a0.getD (x6 : Int).toNat default).fName) == ((a0.getD (IntKind.i64.wrap (x6 - 1) : Int).toNat default).fName)) false)))).bind (fun s15 =>
              cond s15 (
                some (J.ret 1)) (
                recvars_Valid_l0 (IntKind.i64.wrap (x6 + 1))))))))) (
    some (J.go ()))
def vars_Valid_l0 (a0 : List TVar) : Nat → Int → Option (J Unit Int)
  | 0, _ => none
  | n + 1, x => vars_Valid_l0_b a0 n (vars_Valid_l0 a0 n) x
def vars_Valid (fuel : Nat) (a0 : List TVar) : Option Int :=
  cond (decide (128 < (a0.length : Int))) (
    some 4) (
    jn (vars_Valid_l0 a0 fuel (0 : Int)) (fun s2 =>
      some 0))
theorem vars_Valid_ok (fuel : Nat) (a0 : List TVar) (r : Int) (h : vars_Valid fuel a0 = some r) : ACalls Try.prog 14 [.slice 5 (a0.map encTVar)] [] (fun q => q = ⟨.int .i64 r, [], [], []⟩) := by
  unfold vars_Valid at h
  refine ACalls.noown ?_
  refine ACalls.intro (fn := Try.f14) Try.func14 rfl ?_
  refine AWp.keep [0] (st' := ⟨sp [(0, .slice 5 (a0.map encTVar))] 0 48, [], [], []⟩) (by kernel_rfl) ?_
  refine AWp.seqX [0] (tg := []) (H := []) (st' := ⟨sp [(0, .slice 5 (a0.map encTVar))] 0 48, [], [], []⟩) (ob := (True ∧ True)) (by kernel_rfl) ⟨trivial, trivial⟩ ?_
  refine AWp.seq ?_
  refine AWp.seqX [0, 7] (tg := []) (H := [(6, .int .i64 (a0.length : Int))]) (st' := ⟨sp [(0, .slice 5 (a0.map encTVar)), (7, .bool (decide (128 < (a0.length : Int))))] 0 48, [], [], []⟩) (ob := (True ∧ (((True ∧ True) ∧ ((.int .i64 ((a0.map encTVar).length : Int) : DV) = .int .i64 (a0.length : Int))) ∧ ((True ∧ (True ∧ (IntKind.i64 = IntKind.i64))) ∧ True)))) (by kernel_rfl) ⟨trivial, ⟨⟨⟨trivial, trivial⟩, (congrArg (fun n : Nat => DV.int .i64 n) (List.length_map _))⟩, ⟨⟨trivial, ⟨trivial, rfl⟩⟩, trivial⟩⟩⟩ ?_
  refine AWp.cond (b := decide (128 < (a0.length : Int))) (by kernel_rfl) trivial (fun c1 => ?_) (fun c1 => ?_)
  · have h := cond_t c1 h
    refine AWp.seqX [2] (tg := []) (H := []) (st' := ⟨sp [(2, .int .i64 4)] 0 48, [], [], []⟩) (ob := (True ∧ True)) (by kernel_rfl) ⟨trivial, trivial⟩ ?_
    refine AWp.ret ?_
    obtain rfl := Option.some.inj h
    exact ⟨[.int .i64 4], (True ∧ True), by kernel_rfl, ⟨trivial, trivial⟩, by kernel_rfl, ⟨rfl, rfl, rfl⟩⟩
  · have h := cond_f c1 h
    refine AWp.skip ?_
    obtain ⟨j4, e3, k5⟩ := jn_some h
    refine AWp.seqSum (σ := Unit) (fun s2 => ⟨sp [] 0 48, [], [], []⟩) (fun s2 => j4 = .go s2) ?_ ?_
    ·
      refine AWp.seqX [0, 8, 9, 10] (tg := []) (H := [(9, .int .i64 (a0.length : Int))]) (st' := ⟨sp [(0, .slice 5 (a0.map encTVar)), (8, .slice 5 (a0.map encTVar)), (9, .int .i64 (a0.length : Int)), (10, .int .i64 0)] 0 48, [], [], []⟩) (ob := (True ∧ (((True ∧ True) ∧ ((.int .i64 ((a0.map encTVar).length : Int) : DV) = .int .i64 (a0.length : Int))) ∧ (True ∧ True)))) (by kernel_rfl) ⟨trivial, ⟨⟨⟨trivial, trivial⟩, (congrArg (fun n : Nat => DV.int .i64 n) (List.length_map _))⟩, ⟨trivial, trivial⟩⟩⟩ ?_
      refine AWp.block ?_
      refine AWp.loop (ι := {p : Nat × (Int) // vars_Valid_l0 a0 p.1 p.2 = some _}) (fun p => ⟨sp [(0, .slice 5 (a0.map encTVar)), (8, .slice 5 (a0.map encTVar)), (9, .int .i64 (a0.length : Int)), (10, .int .i64 p.1.2)] 0 48, [], [], []⟩) (fun p => p.1.1) ⟨(fuel, (0 : Int)), e3⟩ ⟨⟨.inr ⟨rfl, rfl⟩, ⟨.inl rfl, ⟨.inl rfl, ⟨.inl rfl, ⟨.inl rfl, ⟨.inl rfl, ⟨.inl rfl, ⟨.inl rfl, ⟨.inr ⟨rfl, rfl⟩, ⟨.inr ⟨rfl, rfl⟩, ⟨.inr ⟨rfl, rfl⟩, ⟨.inl rfl, ⟨.inl rfl, ⟨.inl rfl, ⟨.inl rfl, ⟨.inl rfl, ⟨.inl rfl, ⟨.inl rfl, ⟨.inl rfl, ⟨.inl rfl, ⟨.inl rfl, ⟨.inl rfl, ⟨.inl rfl, ⟨.inl rfl, ⟨.inl rfl, ⟨.inl rfl, ⟨.inl rfl, ⟨.inl rfl, ⟨.inl rfl, ⟨.inl rfl, ⟨.inl rfl, ⟨.inl rfl, ⟨.inl rfl, ⟨.inl rfl, ⟨.inl rfl, ⟨.inl rfl, ⟨.inl rfl, ⟨.inl rfl, ⟨.inl rfl, ⟨.inl rfl, ⟨.inl rfl, ⟨.inl rfl, ⟨.inl rfl, ⟨.inl rfl, ⟨.inl rfl, ⟨.inl rfl, ⟨.inl rfl, ⟨.inl rfl, trivial⟩⟩⟩⟩⟩⟩⟩⟩⟩⟩⟩⟩⟩⟩⟩⟩⟩⟩⟩⟩⟩⟩⟩⟩⟩⟩⟩⟩⟩⟩⟩⟩⟩⟩⟩⟩⟩⟩⟩⟩⟩⟩⟩⟩⟩⟩⟩⟩, rfl, rfl, rfl, ⟨_, .slnil, (.refl _)⟩, rfl⟩ ?_
      rintro ⟨⟨n7, x6⟩, h⟩
      cases n7 with
      | zero => cases h
      | succ n7 =>
        replace h : vars_Valid_l0_b a0 n7 (vars_Valid_l0 a0 n7) x6 = some _ := h
        unfold vars_Valid_l0_b at h
        refine AWp.seqX [0, 8, 9, 10, 11] (tg := []) (H := []) (st' := ⟨sp [(0, .slice 5 (a0.map encTVar)), (8, .slice 5 (a0.map encTVar)), (9, .int .i64 (a0.length : Int)), (10, .int .i64 x6), (11, .bool (decide (x6 < (a0.length : Int))))] 0 48, [], [], []⟩) (ob := ((True ∧ (True ∧ (IntKind.i64 = IntKind.i64))) ∧ True)) (by kernel_rfl) ⟨⟨trivial, ⟨trivial, rfl⟩⟩, trivial⟩ ?_
        refine AWp.seq ?_
        refine AWp.cond (b := decide (x6 < (a0.length : Int))) (by kernel_rfl) trivial (fun c8 => ?_) (fun c8 => ?_)
        · have h := cond_t c8 h
          refine AWp.skip ?_
          refine AWp.seq ?_
          refine AWp.block ?_
          obtain ⟨⟨o9, o10⟩, h⟩ := req_some h
          refine AWp.seqX [0, 3, 4, 8, 9, 10] (tg := [3, 12, 14]) (H := [(13, .cptr [.str ((a0.getD (x6 : Int).toNat default).fName), .str ((a0.getD (x6 : Int).toNat default).fValue), .bool ((a0.getD (x6 : Int).toNat default).fSet), .bool ((a0.getD (x6 : Int).toNat default).fExport), .bool ((a0.getD (x6 : Int).toNat default).fReadonly)] 0)]) (st' := ⟨sp [(0, .slice 5 (a0.map encTVar)), (3, .int .i64 x6), (4, .ptr true 0 0), (8, .slice 5 (a0.map encTVar)), (9, .int .i64 (a0.length : Int)), (10, .int .i64 x6)] 0 48, [.cells 26 [.str ((a0.getD (x6 : Int).toNat default).fName), .str ((a0.getD (x6 : Int).toNat default).fValue), .bool ((a0.getD (x6 : Int).toNat default).fSet), .bool ((a0.getD (x6 : Int).toNat default).fExport), .bool ((a0.getD (x6 : Int).toNat default).fReadonly)]], [], []⟩) (ob := (True ∧ (((True ∧ (True ∧ (((0 : Int) ≤ x6) ∧ ((x6 < ((a0.map encTVar).length : Int)) ∧ (5 = 5))))) ∧ ((.cptr ((a0.map encTVar).getD (x6 : Int).toNat []) 0 : DV) = .cptr [.str ((a0.getD (x6 : Int).toNat default).fName), .str ((a0.getD (x6 : Int).toNat default).fValue), .bool ((a0.getD (x6 : Int).toNat default).fSet), .bool ((a0.getD (x6 : Int).toNat default).fExport), .bool ((a0.getD (x6 : Int).toNat default).fReadonly)] 0)) ∧ ((True ∧ (0 + 5 ≤ 5)) ∧ ((true = true) ∧ (True ∧ ((True ∧ (True ∧ ((true = true) ∧ (0 + 5 ≤ 5)))) ∧ True))))))) (by kernel_rfl) ⟨trivial, ⟨⟨⟨trivial, ⟨trivial, ⟨o9, ⟨(lt_map o10), rfl⟩⟩⟩⟩, (congrArg (fun c => DV.cptr c 0) (getD_encI encTVar a0 (x6 : Int) o9 o10))⟩, ⟨⟨trivial, (by decide)⟩, ⟨rfl, ⟨trivial, ⟨⟨trivial, ⟨trivial, ⟨rfl, (by decide)⟩⟩⟩, trivial⟩⟩⟩⟩⟩⟩ ?_
          refine AWp.block ?_
          refine AWp.seqO ?_
          refine AOps.runK [0, 3, 4, 8, 9, 10, 17] 2 (tg := [15, 19]) (H := []) (st' := ⟨sp [(0, .slice 5 (a0.map encTVar)), (3, .int .i64 x6), (4, .ptr true 0 0), (8, .slice 5 (a0.map encTVar)), (9, .int .i64 (a0.length : Int)), (10, .int .i64 x6), (17, .str ((a0.getD (x6 : Int).toNat default).fName))] 0 48, [.cells 26 [.str ((a0.getD (x6 : Int).toNat default).fName), .str ((a0.getD (x6 : Int).toNat default).fValue), .bool ((a0.getD (x6 : Int).toNat default).fSet), .bool ((a0.getD (x6 : Int).toNat default).fExport), .bool ((a0.getD (x6 : Int).toNat default).fReadonly)]], [], []⟩) (ob := ((True ∧ (1 ≠ 0)) ∧ ((True ∧ (0 < 5)) ∧ True))) (by kernel_rfl) ⟨⟨trivial, (by decide)⟩, ⟨⟨trivial, (by decide)⟩, trivial⟩⟩ ?_
          obtain ⟨r11, e12, h⟩ := bind_some h
          refine AOps.call1 (ds := [.str ((a0.getD (x6 : Int).toNat default).fName)]) (d := .bool r11) (ow := []) (st' := ⟨sp [(0, .slice 5 (a0.map encTVar)), (3, .int .i64 x6), (4, .ptr true 0 0), (8, .slice 5 (a0.map encTVar)), (9, .int .i64 (a0.length : Int)), (10, .int .i64 x6), (17, .str ((a0.getD (x6 : Int).toNat default).fName)), (18, .bool r11)] 0 48, [.cells 26 [.str ((a0.getD (x6 : Int).toNat default).fName), .str ((a0.getD (x6 : Int).toNat default).fValue), .bool ((a0.getD (x6 : Int).toNat default).fSet), .bool ((a0.getD (x6 : Int).toNat default).fExport), .bool ((a0.getD (x6 : Int).toNat default).fReadonly)]], [], []⟩) (by kernel_rfl) fk32 (by kernel_rfl) ⟨trivial, trivial⟩ (by kernel_rfl) (chars_Name_ok n7 ((a0.getD (x6 : Int).toNat default).fName) r11 e12) (by kernel_rfl) ?_
          refine AOps.runK [0, 3, 4, 8, 9, 10, 15] 2 (tg := [15, 19]) (H := []) (st' := ⟨sp [(0, .slice 5 (a0.map encTVar)), (3, .int .i64 x6), (4, .ptr true 0 0), (8, .slice 5 (a0.map encTVar)), (9, .int .i64 (a0.length : Int)), (10, .int .i64 x6), (15, .bool (!r11))] 0 48, [.cells 26 [.str ((a0.getD (x6 : Int).toNat default).fName), .str ((a0.getD (x6 : Int).toNat default).fValue), .bool ((a0.getD (x6 : Int).toNat default).fSet), .bool ((a0.getD (x6 : Int).toNat default).fExport), .bool ((a0.getD (x6 : Int).toNat default).fReadonly)]], [], []⟩) (ob := (True ∧ (True ∧ True))) (by kernel_rfl) ⟨trivial, ⟨trivial, trivial⟩⟩ ?_
          refine AOps.done ?_
          refine AWp.cond (b := !r11) (by kernel_rfl) trivial (fun c13 => ?_) (fun c13 => ?_)
          · have h := cond_t c13 h
            refine AWp.seqX [2] (tg := []) (H := []) (st' := ⟨sp [(2, .int .i64 10)] 0 48, [.cells 26 [.str ((a0.getD (x6 : Int).toNat default).fName), .str ((a0.getD (x6 : Int).toNat default).fValue), .bool ((a0.getD (x6 : Int).toNat default).fSet), .bool ((a0.getD (x6 : Int).toNat default).fExport), .bool ((a0.getD (x6 : Int).toNat default).fReadonly)]], [], []⟩) (ob := (True ∧ True)) (by kernel_rfl) ⟨trivial, trivial⟩ ?_
            refine AWp.ret ?_
            have h := jk_some h k5
            obtain rfl := Option.some.inj h
            exact ⟨[.int .i64 10], (True ∧ True), by kernel_rfl, ⟨trivial, trivial⟩, by kernel_rfl, ⟨rfl, rfl, rfl⟩⟩
          · have h := cond_f c13 h
            refine AWp.seqX [0, 3, 4, 8, 9, 10, 20] (tg := [20, 24]) (H := []) (st' := ⟨sp [(0, .slice 5 (a0.map encTVar)), (3, .int .i64 x6), (4, .ptr true 0 0), (8, .slice 5 (a0.map encTVar)), (9, .int .i64 (a0.length : Int)), (10, .int .i64 x6), (20, .bool (decide (4096 < (((a0.getD (x6 : Int).toNat default).fValue).length : Int))))] 0 48, [.cells 26 [.str ((a0.getD (x6 : Int).toNat default).fName), .str ((a0.getD (x6 : Int).toNat default).fValue), .bool ((a0.getD (x6 : Int).toNat default).fSet), .bool ((a0.getD (x6 : Int).toNat default).fExport), .bool ((a0.getD (x6 : Int).toNat default).fReadonly)]], [], []⟩) (ob := ((True ∧ (1 ≠ 0)) ∧ ((True ∧ (1 < 5)) ∧ ((True ∧ True) ∧ ((True ∧ (True ∧ (IntKind.i64 = IntKind.i64))) ∧ (True ∧ True)))))) (by kernel_rfl) ⟨⟨trivial, (by decide)⟩, ⟨⟨trivial, (by decide)⟩, ⟨⟨trivial, trivial⟩, ⟨⟨trivial, ⟨trivial, rfl⟩⟩, ⟨trivial, trivial⟩⟩⟩⟩⟩ ?_
            refine AWp.cond (b := decide (4096 < (((a0.getD (x6 : Int).toNat default).fValue).length : Int))) (by kernel_rfl) trivial (fun c14 => ?_) (fun c14 => ?_)
            · have h := cond_t c14 h
              refine AWp.seqX [2] (tg := []) (H := []) (st' := ⟨sp [(2, .int .i64 3)] 0 48, [.cells 26 [.str ((a0.getD (x6 : Int).toNat default).fName), .str ((a0.getD (x6 : Int).toNat default).fValue), .bool ((a0.getD (x6 : Int).toNat default).fSet), .bool ((a0.getD (x6 : Int).toNat default).fExport), .bool ((a0.getD (x6 : Int).toNat default).fReadonly)]], [], []⟩) (ob := (True ∧ True)) (by kernel_rfl) ⟨trivial, trivial⟩ ?_
              refine AWp.ret ?_
              have h := jk_some h k5
              obtain rfl := Option.some.inj h
              exact ⟨[.int .i64 3], (True ∧ True), by kernel_rfl, ⟨trivial, trivial⟩, by kernel_rfl, ⟨rfl, rfl, rfl⟩⟩
            · have h := cond_f c14 h
              obtain ⟨s15, e16, h⟩ := bind_some h
              refine AWp.seqMid ⟨sp [(0, .slice 5 (a0.map encTVar)), (8, .slice 5 (a0.map encTVar)), (9, .int .i64 (a0.length : Int)), (10, .int .i64 x6), (25, .bool s15)] 0 48, [.cells 26 [.str ((a0.getD (x6 : Int).toNat default).fName), .str ((a0.getD (x6 : Int).toNat default).fValue), .bool ((a0.getD (x6 : Int).toNat default).fSet), .bool ((a0.getD (x6 : Int).toNat default).fExport), .bool ((a0.getD (x6 : Int).toNat default).fReadonly)]], [], []⟩ ?_ ?_
              ·
                refine AWp.seqX [0, 3, 4, 8, 9, 10, 25] (tg := [25, 33]) (H := []) (st' := ⟨sp [(0, .slice 5 (a0.map encTVar)), (3, .int .i64 x6), (4, .ptr true 0 0), (8, .slice 5 (a0.map encTVar)), (9, .int .i64 (a0.length : Int)), (10, .int .i64 x6), (25, .bool (cond (!((a0.getD (x6 : Int).toNat default).fSet)) (!(((a0.getD (x6 : Int).toNat default).fValue) == [])) false))] 0 48, [.cells 26 [.str ((a0.getD (x6 : Int).toNat default).fName), .str ((a0.getD (x6 : Int).toNat default).fValue), .bool ((a0.getD (x6 : Int).toNat default).fSet), .bool ((a0.getD (x6 : Int).toNat default).fExport), .bool ((a0.getD (x6 : Int).toNat default).fReadonly)]], [], []⟩) (ob := ((True ∧ (1 ≠ 0)) ∧ ((True ∧ (2 < 5)) ∧ (True ∧ (True ∧ ((((!((a0.getD (x6 : Int).toNat default).fSet)) == true) = true → (True ∧ (1 ≠ 0))) ∧ ((((!((a0.getD (x6 : Int).toNat default).fSet)) == true) = true → (((((!((a0.getD (x6 : Int).toNat default).fSet)) == true) = true) ∧ True) ∧ (1 < 5))) ∧ ((((!((a0.getD (x6 : Int).toNat default).fSet)) == true) = true → (((((!((a0.getD (x6 : Int).toNat default).fSet)) == true) = true) ∧ True) ∧ (True ∧ True))) ∧ ((True ∧ (((!((a0.getD (x6 : Int).toNat default).fSet)) = true → ((((!((a0.getD (x6 : Int).toNat default).fSet)) == true) = true) ∧ True)) ∧ ((!((a0.getD (x6 : Int).toNat default).fSet)) = false → True))) ∧ (True ∧ True)))))))))) (by kernel_rfl) ⟨⟨trivial, (by decide)⟩, ⟨⟨trivial, (by decide)⟩, ⟨trivial, ⟨trivial, ⟨(fun hg0 => ⟨trivial, (by decide)⟩), ⟨(fun hg0 => ⟨⟨hg0, trivial⟩, (by decide)⟩), ⟨(fun hg0 => ⟨⟨hg0, trivial⟩, ⟨trivial, trivial⟩⟩), ⟨⟨trivial, ⟨(fun hg0 => ⟨(beqT hg0), trivial⟩), (fun hg0 => trivial)⟩⟩, ⟨trivial, trivial⟩⟩⟩⟩⟩⟩⟩⟩⟩ ?_
                refine AWp.cond (b := cond (!((a0.getD (x6 : Int).toNat default).fSet)) (!(((a0.getD (x6 : Int).toNat default).fValue) == [])) false) (by kernel_rfl) trivial (fun c17 => ?_) (fun c17 => ?_)
                · have h := cond_t c17 e16
                  refine AWp.skip ?_
                  obtain rfl := Option.some.inj h
                  exact ⟨⟨.inr ⟨rfl, rfl⟩, ⟨.inl rfl, ⟨.inl rfl, ⟨.inl rfl, ⟨.inl rfl, ⟨.inl rfl, ⟨.inl rfl, ⟨.inl rfl, ⟨.inr ⟨rfl, rfl⟩, ⟨.inr ⟨rfl, rfl⟩, ⟨.inr ⟨rfl, rfl⟩, ⟨.inl rfl, ⟨.inl rfl, ⟨.inl rfl, ⟨.inl rfl, ⟨.inl rfl, ⟨.inl rfl, ⟨.inl rfl, ⟨.inl rfl, ⟨.inl rfl, ⟨.inl rfl, ⟨.inl rfl, ⟨.inl rfl, ⟨.inl rfl, ⟨.inl rfl, ⟨.inr ⟨rfl, rfl⟩, ⟨.inl rfl, ⟨.inl rfl, ⟨.inl rfl, ⟨.inl rfl, ⟨.inl rfl, ⟨.inl rfl, ⟨.inl rfl, ⟨.inl rfl, ⟨.inl rfl, ⟨.inl rfl, ⟨.inl rfl, ⟨.inl rfl, ⟨.inl rfl, ⟨.inl rfl, ⟨.inl rfl, ⟨.inl rfl, ⟨.inl rfl, ⟨.inl rfl, ⟨.inl rfl, ⟨.inl rfl, ⟨.inl rfl, ⟨.inl rfl, trivial⟩⟩⟩⟩⟩⟩⟩⟩⟩⟩⟩⟩⟩⟩⟩⟩⟩⟩⟩⟩⟩⟩⟩⟩⟩⟩⟩⟩⟩⟩⟩⟩⟩⟩⟩⟩⟩⟩⟩⟩⟩⟩⟩⟩⟩⟩⟩⟩, rfl, rfl, rfl, ⟨_, .slnil, (.refl _)⟩, rfl⟩
                · have h := cond_f c17 e16
                  obtain ⟨⟨o18, o19⟩, h⟩ := req_some h
                  refine AWp.tailNQ [0, 8, 9, 10, 25] [] (tg := [25, 46]) (H := [(42, .cptr [.str ((a0.getD (IntKind.i64.wrap (x6 - 1) : Int).toNat default).fName), .str ((a0.getD (IntKind.i64.wrap (x6 - 1) : Int).toNat default).fValue), .bool ((a0.getD (IntKind.i64.wrap (x6 - 1) : Int).toNat default).fSet), .bool ((a0.getD (IntKind.i64.wrap (x6 - 1) : Int).toNat default).fExport), .bool ((a0.getD (IntKind.i64.wrap (x6 - 1) : Int).toNat default).fReadonly)] 0)]) (st' := ⟨sp [(0, .slice 5 (a0.map encTVar)), (8, .slice 5 (a0.map encTVar)), (9, .int .i64 (a0.length : Int)), (10, .int .i64 x6), (25, .bool (cond (decide (0 < x6)) (Op.bytesLess ((a0.getD (x6 : Int).toNat default).fName) ((a0.getD (IntKind.i64.wrap (x6 - 1) : Int).toNat default).fName) || ((a0.getD (x6 : Int).toNat default).fName) == ((a0.getD (IntKind.i64.wrap (x6 - 1) : Int).toNat default).fName)) false))] 0 48, [.cells 26 [.str ((a0.getD (x6 : Int).toNat default).fName), .str ((a0.getD (x6 : Int).toNat default).fValue), .bool ((a0.getD (x6 : Int).toNat default).fSet), .bool ((a0.getD (x6 : Int).toNat default).fExport), .bool ((a0.getD (x6 : Int).toNat default).fReadonly)]], [], []⟩) (ob := (True ∧ ((True ∧ (True ∧ (IntKind.i64 = IntKind.i64))) ∧ (True ∧ ((((decide (0 < x6)) == true) = true → (True ∧ (1 ≠ 0))) ∧ ((((decide (0 < x6)) == true) = true → (((((decide (0 < x6)) == true) = true) ∧ True) ∧ (0 < 5))) ∧ ((((decide (0 < x6)) == true) = true → True) ∧ ((((decide (0 < x6)) == true) = true → True) ∧ ((((decide (0 < x6)) == true) = true → (((((decide (0 < x6)) == true) = true) ∧ True) ∧ (True ∧ (IntKind.i64 = IntKind.i64)))) ∧ ((((decide (0 < x6)) == true) = true → ((((((decide (0 < x6)) == true) = true) ∧ True) ∧ (((((decide (0 < x6)) == true) = true) ∧ True) ∧ (((0 : Int) ≤ (IntKind.i64.wrap (x6 - 1))) ∧ (((IntKind.i64.wrap (x6 - 1)) < ((a0.map encTVar).length : Int)) ∧ (5 = 5))))) ∧ ((.cptr ((a0.map encTVar).getD (IntKind.i64.wrap (x6 - 1) : Int).toNat []) 0 : DV) = .cptr [.str ((a0.getD (IntKind.i64.wrap (x6 - 1) : Int).toNat default).fName), .str ((a0.getD (IntKind.i64.wrap (x6 - 1) : Int).toNat default).fValue), .bool ((a0.getD (IntKind.i64.wrap (x6 - 1) : Int).toNat default).fSet), .bool ((a0.getD (IntKind.i64.wrap (x6 - 1) : Int).toNat default).fExport), .bool ((a0.getD (IntKind.i64.wrap (x6 - 1) : Int).toNat default).fReadonly)] 0))) ∧ ((((decide (0 < x6)) == true) = true → (((((decide (0 < x6)) == true) = true) ∧ True) ∧ (1 ≠ 0))) ∧ ((((decide (0 < x6)) == true) = true → (((((decide (0 < x6)) == true) = true) ∧ True) ∧ (0 < 5))) ∧ ((((decide (0 < x6)) == true) = true → (((((decide (0 < x6)) == true) = true) ∧ True) ∧ (((((decide (0 < x6)) == true) = true) ∧ True) ∧ True))) ∧ ((True ∧ (((decide (0 < x6)) = true → ((((decide (0 < x6)) == true) = true) ∧ True)) ∧ ((decide (0 < x6)) = false → True))) ∧ (True ∧ True))))))))))))))) mixed (by kernel_rfl) (by kernel_rfl) ⟨trivial, ⟨⟨trivial, ⟨trivial, rfl⟩⟩, ⟨trivial, ⟨(fun hg0 => ⟨trivial, (by decide)⟩), ⟨(fun hg0 => ⟨⟨hg0, trivial⟩, (by decide)⟩), ⟨(fun hg0 => trivial), ⟨(fun hg0 => trivial), ⟨(fun hg0 => ⟨⟨hg0, trivial⟩, ⟨trivial, rfl⟩⟩), ⟨(fun hg0 => ⟨⟨⟨hg0, trivial⟩, ⟨⟨hg0, trivial⟩, ⟨(o18 hg0), ⟨(lt_map (o19 hg0)), rfl⟩⟩⟩⟩, (congrArg (fun c => DV.cptr c 0) (getD_encI encTVar a0 (IntKind.i64.wrap (x6 - 1) : Int) (o18 hg0) (o19 hg0)))⟩), ⟨(fun hg0 => ⟨⟨hg0, trivial⟩, (by decide)⟩), ⟨(fun hg0 => ⟨⟨hg0, trivial⟩, (by decide)⟩), ⟨(fun hg0 => ⟨⟨hg0, trivial⟩, ⟨⟨hg0, trivial⟩, trivial⟩⟩), ⟨⟨trivial, ⟨(fun hg0 => ⟨(beqT hg0), trivial⟩), (fun hg0 => trivial)⟩⟩, ⟨trivial, trivial⟩⟩⟩⟩⟩⟩⟩⟩⟩⟩⟩⟩⟩⟩ ?_
                  obtain rfl := Option.some.inj h
                  exact ⟨⟨.inr ⟨rfl, rfl⟩, ⟨.inl rfl, ⟨.inl rfl, ⟨.inl rfl, ⟨.inl rfl, ⟨.inl rfl, ⟨.inl rfl, ⟨.inl rfl, ⟨.inr ⟨rfl, rfl⟩, ⟨.inr ⟨rfl, rfl⟩, ⟨.inr ⟨rfl, rfl⟩, ⟨.inl rfl, ⟨.inl rfl, ⟨.inl rfl, ⟨.inl rfl, ⟨.inl rfl, ⟨.inl rfl, ⟨.inl rfl, ⟨.inl rfl, ⟨.inl rfl, ⟨.inl rfl, ⟨.inl rfl, ⟨.inl rfl, ⟨.inl rfl, ⟨.inl rfl, ⟨.inr ⟨rfl, rfl⟩, ⟨.inl rfl, ⟨.inl rfl, ⟨.inl rfl, ⟨.inl rfl, ⟨.inl rfl, ⟨.inl rfl, ⟨.inl rfl, ⟨.inl rfl, ⟨.inl rfl, ⟨.inl rfl, ⟨.inl rfl, ⟨.inl rfl, ⟨.inl rfl, ⟨.inl rfl, ⟨.inl rfl, ⟨.inl rfl, ⟨.inl rfl, ⟨.inl rfl, ⟨.inl rfl, ⟨.inl rfl, ⟨.inl rfl, ⟨.inl rfl, trivial⟩⟩⟩⟩⟩⟩⟩⟩⟩⟩⟩⟩⟩⟩⟩⟩⟩⟩⟩⟩⟩⟩⟩⟩⟩⟩⟩⟩⟩⟩⟩⟩⟩⟩⟩⟩⟩⟩⟩⟩⟩⟩⟩⟩⟩⟩⟩⟩, rfl, rfl, rfl, ⟨_, .slnil, (.refl _)⟩, rfl⟩
              · skip
                refine AWp.cond (b := s15) (by kernel_rfl) trivial (fun c20 => ?_) (fun c20 => ?_)
                · have h := cond_t c20 h
                  refine AWp.seqX [2] (tg := []) (H := []) (st' := ⟨sp [(2, .int .i64 1)] 0 48, [.cells 26 [.str ((a0.getD (x6 : Int).toNat default).fName), .str ((a0.getD (x6 : Int).toNat default).fValue), .bool ((a0.getD (x6 : Int).toNat default).fSet), .bool ((a0.getD (x6 : Int).toNat default).fExport), .bool ((a0.getD (x6 : Int).toNat default).fReadonly)]], [], []⟩) (ob := (True ∧ True)) (by kernel_rfl) ⟨trivial, trivial⟩ ?_
                  refine AWp.ret ?_
                  have h := jk_some h k5
                  obtain rfl := Option.some.inj h
                  exact ⟨[.int .i64 1], (True ∧ True), by kernel_rfl, ⟨trivial, trivial⟩, by kernel_rfl, ⟨rfl, rfl, rfl⟩⟩
                · have h := cond_f c20 h
                  refine AWp.skip ?_
                  refine AWp.tailN [0, 8, 9, 10] [] (tg := []) (H := []) (st' := ⟨sp [(0, .slice 5 (a0.map encTVar)), (8, .slice 5 (a0.map encTVar)), (9, .int .i64 (a0.length : Int)), (10, .int .i64 (IntKind.i64.wrap (x6 + 1)))] 0 48, [.cells 26 [.str ((a0.getD (x6 : Int).toNat default).fName), .str ((a0.getD (x6 : Int).toNat default).fValue), .bool ((a0.getD (x6 : Int).toNat default).fSet), .bool ((a0.getD (x6 : Int).toNat default).fExport), .bool ((a0.getD (x6 : Int).toNat default).fReadonly)]], [], []⟩) (ob := ((True ∧ (True ∧ (IntKind.i64 = IntKind.i64))) ∧ (True ∧ True))) (by kernel_rfl) ⟨⟨trivial, ⟨trivial, rfl⟩⟩, ⟨trivial, trivial⟩⟩ ?_
                  exact ⟨⟨(n7, IntKind.i64.wrap (x6 + 1)), h⟩, Nat.lt_succ_self _, ⟨⟨.inr ⟨rfl, rfl⟩, ⟨.inl rfl, ⟨.inl rfl, ⟨.inl rfl, ⟨.inl rfl, ⟨.inl rfl, ⟨.inl rfl, ⟨.inl rfl, ⟨.inr ⟨rfl, rfl⟩, ⟨.inr ⟨rfl, rfl⟩, ⟨.inr ⟨rfl, rfl⟩, ⟨.inl rfl, ⟨.inl rfl, ⟨.inl rfl, ⟨.inl rfl, ⟨.inl rfl, ⟨.inl rfl, ⟨.inl rfl, ⟨.inl rfl, ⟨.inl rfl, ⟨.inl rfl, ⟨.inl rfl, ⟨.inl rfl, ⟨.inl rfl, ⟨.inl rfl, ⟨.inl rfl, ⟨.inl rfl, ⟨.inl rfl, ⟨.inl rfl, ⟨.inl rfl, ⟨.inl rfl, ⟨.inl rfl, ⟨.inl rfl, ⟨.inl rfl, ⟨.inl rfl, ⟨.inl rfl, ⟨.inl rfl, ⟨.inl rfl, ⟨.inl rfl, ⟨.inl rfl, ⟨.inl rfl, ⟨.inl rfl, ⟨.inl rfl, ⟨.inl rfl, ⟨.inl rfl, ⟨.inl rfl, ⟨.inl rfl, ⟨.inl rfl, trivial⟩⟩⟩⟩⟩⟩⟩⟩⟩⟩⟩⟩⟩⟩⟩⟩⟩⟩⟩⟩⟩⟩⟩⟩⟩⟩⟩⟩⟩⟩⟩⟩⟩⟩⟩⟩⟩⟩⟩⟩⟩⟩⟩⟩⟩⟩⟩⟩, rfl, rfl, rfl, ⟨_, .slnil, (.refl _)⟩, rfl⟩⟩
        · have h := cond_f c8 h
          refine AWp.exit ?_
          obtain rfl := Option.some.inj h
          exact ⟨_, rfl, ⟨⟨.inl rfl, ⟨.inl rfl, ⟨.inl rfl, ⟨.inl rfl, ⟨.inl rfl, ⟨.inl rfl, ⟨.inl rfl, ⟨.inl rfl, ⟨.inl rfl, ⟨.inl rfl, ⟨.inl rfl, ⟨.inl rfl, ⟨.inl rfl, ⟨.inl rfl, ⟨.inl rfl, ⟨.inl rfl, ⟨.inl rfl, ⟨.inl rfl, ⟨.inl rfl, ⟨.inl rfl, ⟨.inl rfl, ⟨.inl rfl, ⟨.inl rfl, ⟨.inl rfl, ⟨.inl rfl, ⟨.inl rfl, ⟨.inl rfl, ⟨.inl rfl, ⟨.inl rfl, ⟨.inl rfl, ⟨.inl rfl, ⟨.inl rfl, ⟨.inl rfl, ⟨.inl rfl, ⟨.inl rfl, ⟨.inl rfl, ⟨.inl rfl, ⟨.inl rfl, ⟨.inl rfl, ⟨.inl rfl, ⟨.inl rfl, ⟨.inl rfl, ⟨.inl rfl, ⟨.inl rfl, ⟨.inl rfl, ⟨.inl rfl, ⟨.inl rfl, ⟨.inl rfl, trivial⟩⟩⟩⟩⟩⟩⟩⟩⟩⟩⟩⟩⟩⟩⟩⟩⟩⟩⟩⟩⟩⟩⟩⟩⟩⟩⟩⟩⟩⟩⟩⟩⟩⟩⟩⟩⟩⟩⟩⟩⟩⟩⟩⟩⟩⟩⟩⟩, rfl, rfl, rfl, ⟨_, .slnil, (.refl _)⟩, rfl⟩⟩
    · intro s2 s2h
      have h := jk_go s2h k5
      refine AWp.seqX [2] (tg := []) (H := []) (st' := ⟨sp [(2, .int .i64 0)] 0 48, [], [], []⟩) (ob := (True ∧ True)) (by kernel_rfl) ⟨trivial, trivial⟩ ?_
      refine AWp.ret ?_
      obtain rfl := Option.some.inj h
      exact ⟨[.int .i64 0], (True ∧ True), by kernel_rfl, ⟨trivial, trivial⟩, by kernel_rfl, ⟨rfl, rfl, rfl⟩⟩
end Go.Proofs.Ytboofbgcdhjhnaa
