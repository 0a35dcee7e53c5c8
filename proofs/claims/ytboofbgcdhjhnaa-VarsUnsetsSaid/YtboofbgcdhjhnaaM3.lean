/- Models of the code, and that the code computes them: printed by program (alm.py). -/
import Derived.Test.YtboofbgcdhjhnaaM2
namespace Go.Proofs.Ytboofbgcdhjhnaa
open Go.AL
set_option linter.unusedVariables false
def internal_stringslite_IndexByte_i0 (a0 : List UInt8) : Int :=
  Lib.indexByte a0 (61 : Int).toNat.toUInt8
theorem internal_stringslite_IndexByte_i0_ok (a0 : List UInt8) (r : Int) (h : internal_stringslite_IndexByte_i0 a0 = r) : ACalls Try.prog 56 [.str a0, .int .u8 61] [] (fun q => q = ⟨.int .i64 r, [], [], []⟩) := by
  unfold internal_stringslite_IndexByte_i0 at h
  refine ACalls.noown ?_
  refine ACalls.intro (fn := Try.f56) Try.func56 rfl ?_
  refine AWp.keep [0, 1] (st' := ⟨sp [(0, .str a0), (1, .int .u8 61)] 0 8, [], [], []⟩) (by kernel_rfl) ?_
  refine AWp.seqX [0, 1] (tg := []) (H := []) (st' := ⟨sp [(0, .str a0), (1, .int .u8 61)] 0 8, [], [], []⟩) (ob := (True ∧ True)) (by kernel_rfl) ⟨trivial, trivial⟩ ?_
  refine AWp.seqO ?_
  refine AOps.runK [5, 6] 2 (tg := [4, 7]) (H := []) (st' := ⟨sp [(5, .str a0), (6, .int .u8 61)] 0 8, [], [], []⟩) (ob := (True ∧ (True ∧ True))) (by kernel_rfl) ⟨trivial, ⟨trivial, trivial⟩⟩ ?_
  refine AOps.ext (ds := [.str a0, .int .u8 61]) (d := .int .i64 (Lib.indexByte a0 (61 : Int).toNat.toUInt8)) (st' := ⟨sp [(5, .str a0), (6, .int .u8 61), (7, .int .i64 (Lib.indexByte a0 (61 : Int).toNat.toUInt8))] 0 8, [], [], []⟩) (by kernel_rfl) (by kernel_rfl) ⟨trivial, ⟨trivial, trivial⟩⟩ (ext_indexByte a0 61) (by kernel_rfl) ?_
  refine AOps.runK [4] 1 (tg := [4, 7]) (H := []) (st' := ⟨sp [(4, .int .i64 (Lib.indexByte a0 (61 : Int).toNat.toUInt8))] 0 8, [], [], []⟩) (ob := (True ∧ True)) (by kernel_rfl) ⟨trivial, trivial⟩ ?_
  refine AOps.done ?_
  refine AWp.ret ?_
  obtain rfl := h
  exact ⟨[.int .i64 (Lib.indexByte a0 (61 : Int).toNat.toUInt8)], (True ∧ True), by kernel_rfl, ⟨trivial, trivial⟩, by kernel_rfl, ⟨rfl, rfl, rfl⟩⟩
def internal_stringslite_Index_i0 (a0 : List UInt8) : Option Int :=
  cond (cond false true (([61] : List UInt8) == a0)) (
    some 0) (
    req ((0 < (([61] : List UInt8).length : Int))) (
      some (internal_stringslite_IndexByte_i0 a0)))
theorem internal_stringslite_Index_i0_ok (a0 : List UInt8) (r : Int) (h : internal_stringslite_Index_i0 a0 = some r) : ACalls Try.prog 52 [.str a0, .str ([61] : List UInt8)] [] (fun q => q = ⟨.int .i64 r, [], [], []⟩) := by
  unfold internal_stringslite_Index_i0 at h
  refine ACalls.noown ?_
  refine ACalls.intro (fn := Try.f52) Try.func52 rfl ?_
  refine AWp.keep [0, 1] (st' := ⟨sp [(0, .str a0), (1, .str ([61] : List UInt8))] 0 143, [], [], []⟩) (by kernel_rfl) ?_
  refine AWp.seqX [0, 1] (tg := []) (H := []) (st' := ⟨sp [(0, .str a0), (1, .str ([61] : List UInt8))] 0 143, [], [], []⟩) (ob := (True ∧ True)) (by kernel_rfl) ⟨trivial, trivial⟩ ?_
  refine AWp.seqX [0, 1, 5] (tg := [5, 15]) (H := [(15, .int .i64 1)]) (st' := ⟨sp [(0, .str a0), (1, .str ([61] : List UInt8)), (5, .int .i64 1)] 0 143, [], [], []⟩) (ob := (True ∧ (((True ∧ True) ∧ ((.int .i64 (([61] : List UInt8).length : Int) : DV) = .int .i64 1)) ∧ (True ∧ True)))) (by kernel_rfl) ⟨trivial, ⟨⟨⟨trivial, trivial⟩, rfl⟩, ⟨trivial, trivial⟩⟩⟩ ?_
  refine AWp.seq ?_
  refine AWp.block ?_
  refine AWp.seqX [0, 1, 5, 16] (tg := [16, 23]) (H := [(18, .bool false)]) (st' := ⟨sp [(0, .str a0), (1, .str ([61] : List UInt8)), (5, .int .i64 1), (16, .bool (cond false true (([61] : List UInt8) == a0)))] 0 143, [], [], []⟩) (ob := (True ∧ (((True ∧ (True ∧ (IntKind.i64 = IntKind.i64))) ∧ ((.bool (1 == 0) : DV) = .bool false)) ∧ (True ∧ (((false == false) = true → True) ∧ (((false == false) = true → True) ∧ (((false == false) = true → ((((false == false) = true) ∧ True) ∧ ((((false == false) = true) ∧ True) ∧ True))) ∧ ((True ∧ ((false = true → True) ∧ (false = false → (((false == false) = true) ∧ True)))) ∧ (True ∧ True))))))))) (by kernel_rfl) ⟨trivial, ⟨⟨⟨trivial, ⟨trivial, rfl⟩⟩, rfl⟩, ⟨trivial, ⟨(fun hg0 => trivial), ⟨(fun hg0 => trivial), ⟨(fun hg0 => ⟨⟨hg0, trivial⟩, ⟨⟨hg0, trivial⟩, trivial⟩⟩), ⟨⟨trivial, ⟨(fun hg0 => trivial), (fun hg0 => ⟨(beqF hg0), trivial⟩)⟩⟩, ⟨trivial, trivial⟩⟩⟩⟩⟩⟩⟩⟩ ?_
  refine AWp.cond (b := cond false true (([61] : List UInt8) == a0)) (by kernel_rfl) trivial (fun c1 => ?_) (fun c1 => ?_)
  · have h := cond_t c1 h
    refine AWp.seqX [4] (tg := []) (H := []) (st' := ⟨sp [(4, .int .i64 0)] 0 143, [], [], []⟩) (ob := (True ∧ True)) (by kernel_rfl) ⟨trivial, trivial⟩ ?_
    refine AWp.ret ?_
    obtain rfl := Option.some.inj h
    exact ⟨[.int .i64 0], (True ∧ True), by kernel_rfl, ⟨trivial, trivial⟩, by kernel_rfl, ⟨rfl, rfl, rfl⟩⟩
  · have h := cond_f c1 h
    refine AWp.seqX [0, 1, 5, 24] (tg := [24, 26]) (H := [(26, .bool true)]) (st' := ⟨sp [(0, .str a0), (1, .str ([61] : List UInt8)), (5, .int .i64 1), (24, .bool true)] 0 143, [], [], []⟩) (ob := (True ∧ (((True ∧ (True ∧ (IntKind.i64 = IntKind.i64))) ∧ ((.bool (1 == 1) : DV) = .bool true)) ∧ (True ∧ True)))) (by kernel_rfl) ⟨trivial, ⟨⟨⟨trivial, ⟨trivial, rfl⟩⟩, rfl⟩, ⟨trivial, trivial⟩⟩⟩ ?_
    refine AWp.cond (b := true) (by kernel_rfl) trivial (fun c2 => ?_) (fun c2 => ?_)
    · skip
      refine AWp.seqO ?_
      obtain ⟨o3, h⟩ := req_some h
      refine AOps.runK [27, 29] 3 (tg := [4, 30]) (H := [(29, .int .u8 61)]) (st' := ⟨sp [(27, .str a0), (29, .int .u8 61)] 0 143, [], [], []⟩) (ob := (True ∧ (True ∧ (((True ∧ (True ∧ (((0 : Int) ≤ 0) ∧ (0 < (([61] : List UInt8).length : Int))))) ∧ ((.int .u8 ((([61] : List UInt8).getD 0 0).toNat : Int) : DV) = .int .u8 61)) ∧ True)))) (by kernel_rfl) ⟨trivial, ⟨trivial, ⟨⟨⟨trivial, ⟨trivial, ⟨(by decide), o3⟩⟩⟩, rfl⟩, trivial⟩⟩⟩ ?_
      refine AOps.call1 (ds := [.str a0, .int .u8 61]) (d := .int .i64 (internal_stringslite_IndexByte_i0 a0)) (ow := []) (st' := ⟨sp [(27, .str a0), (29, .int .u8 61), (30, .int .i64 (internal_stringslite_IndexByte_i0 a0))] 0 143, [], [], []⟩) (by kernel_rfl) fk56 (by kernel_rfl) ⟨trivial, ⟨trivial, trivial⟩⟩ (by kernel_rfl) (internal_stringslite_IndexByte_i0_ok a0 (internal_stringslite_IndexByte_i0 a0) rfl) (by kernel_rfl) ?_
      refine AOps.runK [4] 1 (tg := [4, 30]) (H := []) (st' := ⟨sp [(4, .int .i64 (internal_stringslite_IndexByte_i0 a0))] 0 143, [], [], []⟩) (ob := (True ∧ True)) (by kernel_rfl) ⟨trivial, trivial⟩ ?_
      refine AOps.done ?_
      refine AWp.ret ?_
      obtain rfl := Option.some.inj h
      exact ⟨[.int .i64 (internal_stringslite_IndexByte_i0 a0)], (True ∧ True), by kernel_rfl, ⟨trivial, trivial⟩, by kernel_rfl, ⟨rfl, rfl, rfl⟩⟩
    · cases c2
def internal_stringslite_Cut_i0 (a0 : List UInt8) : Option ((List UInt8) × (List UInt8) × Bool) :=
  (internal_stringslite_Index_i0 a0).bind (fun r1 =>
    cond (decide (0 ≤ r1)) (
      req (((0 : Int) ≤ r1) ∧ (r1 ≤ (a0.length : Int)) ∧ ((0 : Int) ≤ (IntKind.i64.wrap (r1 + 1))) ∧ ((IntKind.i64.wrap (r1 + 1) : Int) ≤ (a0.length : Int)) ∧ ((a0.length : Int) ≤ (a0.length : Int))) (
        some ((a0.take (r1 : Int).toNat).drop 0, (a0.take a0.length).drop (IntKind.i64.wrap (r1 + 1) : Int).toNat, true))) (
      some (a0, [], false)))
theorem internal_stringslite_Cut_i0_ok (a0 : List UInt8) (r : (List UInt8) × (List UInt8) × Bool) (h : internal_stringslite_Cut_i0 a0 = some r) : ACalls Try.prog 47 [.str a0, .str ([61] : List UInt8)] [] (fun q => q = ⟨.tuple [.str r.1, .str r.2.1, .bool r.2.2], [], [], []⟩) := by
  unfold internal_stringslite_Cut_i0 at h
  refine ACalls.noown ?_
  refine ACalls.intro (fn := Try.f47) Try.func47 rfl ?_
  refine AWp.keep [0, 1] (st' := ⟨sp [(0, .str a0), (1, .str ([61] : List UInt8))] 0 23, [], [], []⟩) (by kernel_rfl) ?_
  refine AWp.seqX [0, 1] (tg := []) (H := []) (st' := ⟨sp [(0, .str a0), (1, .str ([61] : List UInt8))] 0 23, [], [], []⟩) (ob := (True ∧ (True ∧ (True ∧ True)))) (by kernel_rfl) ⟨trivial, ⟨trivial, ⟨trivial, trivial⟩⟩⟩ ?_
  refine AWp.seq ?_
  refine AWp.seqO ?_
  refine AOps.runK [0, 1, 8, 9] 2 (tg := [7, 10]) (H := []) (st' := ⟨sp [(0, .str a0), (1, .str ([61] : List UInt8)), (8, .str a0), (9, .str ([61] : List UInt8))] 0 23, [], [], []⟩) (ob := (True ∧ (True ∧ True))) (by kernel_rfl) ⟨trivial, ⟨trivial, trivial⟩⟩ ?_
  obtain ⟨r1, e2, h⟩ := bind_some h
  refine AOps.call1 (ds := [.str a0, .str ([61] : List UInt8)]) (d := .int .i64 r1) (ow := []) (st' := ⟨sp [(0, .str a0), (1, .str ([61] : List UInt8)), (8, .str a0), (9, .str ([61] : List UInt8)), (10, .int .i64 r1)] 0 23, [], [], []⟩) (by kernel_rfl) fk52 (by kernel_rfl) ⟨trivial, ⟨trivial, trivial⟩⟩ (by kernel_rfl) (internal_stringslite_Index_i0_ok a0 r1 e2) (by kernel_rfl) ?_
  refine AOps.runK [0, 1, 7] 1 (tg := [7, 10]) (H := []) (st' := ⟨sp [(0, .str a0), (1, .str ([61] : List UInt8)), (7, .int .i64 r1)] 0 23, [], [], []⟩) (ob := (True ∧ True)) (by kernel_rfl) ⟨trivial, trivial⟩ ?_
  refine AOps.done ?_
  refine AWp.seqX [0, 1, 7, 12] (tg := []) (H := []) (st' := ⟨sp [(0, .str a0), (1, .str ([61] : List UInt8)), (7, .int .i64 r1), (12, .bool (decide (0 ≤ r1)))] 0 23, [], [], []⟩) (ob := (True ∧ ((True ∧ (True ∧ (IntKind.i64 = IntKind.i64))) ∧ True))) (by kernel_rfl) ⟨trivial, ⟨⟨trivial, ⟨trivial, rfl⟩⟩, trivial⟩⟩ ?_
  refine AWp.cond (b := decide (0 ≤ r1)) (by kernel_rfl) trivial (fun c3 => ?_) (fun c3 => ?_)
  · have h := cond_t c3 h
    obtain ⟨⟨o4, o5, o6, o7, o8⟩, h⟩ := req_some h
    refine AWp.seqQ [4, 5, 6] (tg := [4, 5, 15, 21]) (H := [(19, .int .i64 1)]) (st' := ⟨sp [(4, .str ((a0.take (r1 : Int).toNat).drop 0)), (5, .str ((a0.take a0.length).drop (IntKind.i64.wrap (r1 + 1) : Int).toNat)), (6, .bool true)] 0 23, [], [], []⟩) (ob := (True ∧ (True ∧ ((True ∧ (True ∧ (True ∧ (((0 : Int) ≤ 0) ∧ (((0 : Int) ≤ r1) ∧ (r1 ≤ (a0.length : Int))))))) ∧ (True ∧ (True ∧ (True ∧ (((True ∧ True) ∧ ((.int .i64 (([61] : List UInt8).length : Int) : DV) = .int .i64 1)) ∧ ((True ∧ (True ∧ (IntKind.i64 = IntKind.i64))) ∧ ((True ∧ (True ∧ (True ∧ (((0 : Int) ≤ (IntKind.i64.wrap (r1 + 1))) ∧ (((IntKind.i64.wrap (r1 + 1) : Int) ≤ (a0.length : Int)) ∧ ((a0.length : Int) ≤ (a0.length : Int))))))) ∧ (True ∧ (True ∧ (True ∧ True))))))))))))) mixed (by kernel_rfl) (by kernel_rfl) ⟨trivial, ⟨trivial, ⟨⟨trivial, ⟨trivial, ⟨trivial, ⟨(by decide), ⟨o4, o5⟩⟩⟩⟩⟩, ⟨trivial, ⟨trivial, ⟨trivial, ⟨⟨⟨trivial, trivial⟩, rfl⟩, ⟨⟨trivial, ⟨trivial, rfl⟩⟩, ⟨⟨trivial, ⟨trivial, ⟨trivial, ⟨o6, ⟨o7, o8⟩⟩⟩⟩⟩, ⟨trivial, ⟨trivial, ⟨trivial, trivial⟩⟩⟩⟩⟩⟩⟩⟩⟩⟩⟩⟩ ?_
    refine AWp.ret ?_
    obtain rfl := Option.some.inj h
    exact ⟨[.str ((a0.take (r1 : Int).toNat).drop 0), .str ((a0.take a0.length).drop (IntKind.i64.wrap (r1 + 1) : Int).toNat), .bool true], (True ∧ (True ∧ (True ∧ True))), by kernel_rfl, ⟨trivial, ⟨trivial, ⟨trivial, trivial⟩⟩⟩, by kernel_rfl, ⟨rfl, rfl, rfl⟩⟩
  · have h := cond_f c3 h
    refine AWp.skip ?_
    refine AWp.seqX [4, 5, 6] (tg := [4, 22]) (H := []) (st' := ⟨sp [(4, .str a0), (5, .str []), (6, .bool false)] 0 23, [], [], []⟩) (ob := (True ∧ (True ∧ (True ∧ (True ∧ True))))) (by kernel_rfl) ⟨trivial, ⟨trivial, ⟨trivial, ⟨trivial, trivial⟩⟩⟩⟩ ?_
    refine AWp.ret ?_
    obtain rfl := Option.some.inj h
    exact ⟨[.str a0, .str [], .bool false], (True ∧ (True ∧ (True ∧ True))), by kernel_rfl, ⟨trivial, ⟨trivial, ⟨trivial, trivial⟩⟩⟩, by kernel_rfl, ⟨rfl, rfl, rfl⟩⟩
def strings_Cut_i0 (a0 : List UInt8) : Option ((List UInt8) × (List UInt8) × Bool) :=
  (internal_stringslite_Cut_i0 a0).bind (fun r1 =>
    some (r1.1, r1.2.1, r1.2.2))
theorem strings_Cut_i0_ok (a0 : List UInt8) (r : (List UInt8) × (List UInt8) × Bool) (h : strings_Cut_i0 a0 = some r) : ACalls Try.prog 37 [.str a0, .str ([61] : List UInt8)] [] (fun q => q = ⟨.tuple [.str r.1, .str r.2.1, .bool r.2.2], [], [], []⟩) := by
  unfold strings_Cut_i0 at h
  refine ACalls.noown ?_
  refine ACalls.intro (fn := Try.f37) Try.func37 rfl ?_
  refine AWp.keep [0, 1] (st' := ⟨sp [(0, .str a0), (1, .str ([61] : List UInt8))] 0 13, [], [], []⟩) (by kernel_rfl) ?_
  refine AWp.seqX [0, 1] (tg := []) (H := []) (st' := ⟨sp [(0, .str a0), (1, .str ([61] : List UInt8))] 0 13, [], [], []⟩) (ob := (True ∧ (True ∧ (True ∧ True)))) (by kernel_rfl) ⟨trivial, ⟨trivial, ⟨trivial, trivial⟩⟩⟩ ?_
  refine AWp.seqO ?_
  refine AOps.runK [7, 8] 2 (tg := [4, 5, 6, 10, 11, 12]) (H := []) (st' := ⟨sp [(7, .str a0), (8, .str ([61] : List UInt8))] 0 13, [], [], []⟩) (ob := (True ∧ (True ∧ True))) (by kernel_rfl) ⟨trivial, ⟨trivial, trivial⟩⟩ ?_
  obtain ⟨r1, e2, h⟩ := bind_some h
  refine AOps.call1 (ds := [.str a0, .str ([61] : List UInt8)]) (d := .tuple [.str r1.1, .str r1.2.1, .bool r1.2.2]) (ow := []) (st' := ⟨sp [(7, .str a0), (8, .str ([61] : List UInt8)), (9, .tuple [.str r1.1, .str r1.2.1, .bool r1.2.2])] 0 13, [], [], []⟩) (by kernel_rfl) fk47 (by kernel_rfl) ⟨trivial, ⟨trivial, trivial⟩⟩ (by kernel_rfl) (internal_stringslite_Cut_i0_ok a0 r1 e2) (by kernel_rfl) ?_
  refine AOps.runK [4, 5, 6] 6 (tg := [4, 5, 6, 10, 11, 12]) (H := []) (st' := ⟨sp [(4, .str r1.1), (5, .str r1.2.1), (6, .bool r1.2.2)] 0 13, [], [], []⟩) (ob := ((True ∧ (0 < 3)) ∧ ((True ∧ (1 < 3)) ∧ ((True ∧ (2 < 3)) ∧ (True ∧ (True ∧ (True ∧ True))))))) (by kernel_rfl) ⟨⟨trivial, (by decide)⟩, ⟨⟨trivial, (by decide)⟩, ⟨⟨trivial, (by decide)⟩, ⟨trivial, ⟨trivial, ⟨trivial, trivial⟩⟩⟩⟩⟩⟩ ?_
  refine AOps.done ?_
  refine AWp.ret ?_
  obtain rfl := Option.some.inj h
  exact ⟨[.str r1.1, .str r1.2.1, .bool r1.2.2], (True ∧ (True ∧ (True ∧ True))), by kernel_rfl, ⟨trivial, ⟨trivial, ⟨trivial, trivial⟩⟩⟩, by kernel_rfl, ⟨rfl, rfl, rfl⟩⟩
def vars_From_l0_b (a0 : List (List UInt8)) (n6 : Nat) (recvars_From_l0 : ((List ((List UInt8) × (List UInt8))) × Int) → Option (J (List ((List UInt8) × (List UInt8))) ((List TVar) × Int))) (x5 : (List ((List UInt8) × (List UInt8))) × Int) : Option (J (List ((List UInt8) × (List UInt8))) ((List TVar) × Int)) :=
  cond (decide (x5.2 < (a0.length : Int))) (
    jn (req (((0 : Int) ≤ x5.2) ∧ (x5.2 < (a0.length : Int))) (
        (strings_Cut_i0 (a0.getD (x5.2 : Int).toNat default)).bind (fun r14 =>
          (cond ((!r14.2.2) == false) (chars_Name n6 r14.1) (some default)).bind (fun r16 =>
            cond (cond (!r14.2.2) true (!r16)) (
              some (J.go x5.1)) (
              cond (decide (4096 < (r14.2.1.length : Int))) (
                some (J.ret (J.ret ([], 3)))) (
                some (J.go (mset x5.1 r14.1 r14.2.1)))))))) (fun s8 =>
      recvars_From_l0 (s8, IntKind.i64.wrap (x5.2 + 1)))) (
    some (J.go x5.1))
def vars_From_l0 (a0 : List (List UInt8)) : Nat → ((List ((List UInt8) × (List UInt8))) × Int) → Option (J (List ((List UInt8) × (List UInt8))) ((List TVar) × Int))
  | 0, _ => none
  | n + 1, x => vars_From_l0_b a0 n (vars_From_l0 a0 n) x
def vars_From_l1_b (s1 : List ((List UInt8) × (List UInt8))) (n13 : Nat) (recvars_From_l1 : ((List TVar) × Int) → Option (List TVar)) (x12 : (List TVar) × Int) : Option (List TVar) :=
  cond (decide (x12.2 < ((sortK (s1.map (·.1))).length : Int))) (
    req (((0 : Int) ≤ x12.2) ∧ (x12.2 < ((sortK (s1.map (·.1))).length : Int))) (
      req ((x12.1.length + 1 ≤ 9223372036854775807) ∧ ((x12.1.length + 1) * 40 ≤ 140737488355328)) (
        recvars_From_l1 (x12.1 ++ [(TVar.mk ((sortK (s1.map (·.1))).getD (x12.2 : Int).toNat default) (mget s1 ((sortK (s1.map (·.1))).getD (x12.2 : Int).toNat default) []) true true false)], IntKind.i64.wrap (x12.2 + 1))))) (
    some x12.1)
def vars_From_l1 (s1 : List ((List UInt8) × (List UInt8))) : Nat → ((List TVar) × Int) → Option (List TVar)
  | 0, _ => none
  | n + 1, x => vars_From_l1_b s1 n (vars_From_l1 s1 n) x
def vars_From (fuel : Nat) (a0 : List (List UInt8)) : Option ((List TVar) × Int) :=
  jn (vars_From_l0 a0 fuel ([], (0 : Int))) (fun s1 =>
    cond (decide (128 < (s1.length : Int))) (
      some ([], 4)) (
      (req ((∀ p ∈ s1, p.1.length ≤ maxLen) ∧ (s1.length * 16 ≤ 140737488355328)) (
          vars_From_l1 s1 fuel ([], (0 : Int)))).bind (fun s8 =>
        some (s8, 0))))
theorem vars_From_ok (fuel : Nat) (a0 : List (List UInt8)) (r : (List TVar) × Int) (h : vars_From fuel a0 = some r) : ACalls Try.prog 23 [.slice 1 (a0.map ceS)] [] (fun q => q = ⟨.tuple [.slice 5 (r.1.map encTVar), .int .i64 r.2], [], [], [⟨.tup 0 0, 26, 5⟩]⟩) := by
  unfold vars_From at h
  refine ACalls.intro (fn := Try.f23) Try.func23 rfl ?_
  refine AWp.keep [0] (st' := ⟨sp [(0, .slice 1 (a0.map ceS))] 0 61, [], [], []⟩) (by kernel_rfl) ?_
  refine AWp.seqX [0] (tg := []) (H := []) (st' := ⟨sp [(0, .slice 1 (a0.map ceS))] 0 61, [], [], []⟩) (ob := (True ∧ (True ∧ True))) (by kernel_rfl) ⟨trivial, ⟨trivial, trivial⟩⟩ ?_
  refine AWp.seqO ?_
  refine AOps.makeMap mkStr mkStr (st' := ⟨sp [(0, .slice 1 (a0.map ceS)), (13, .mref true 0)] 0 61, [.obj (mapIs mkStr mkStr [])], [], []⟩) (by kernel_rfl) ?_
  refine AOps.runK [0, 4] 1 (tg := [4, 13]) (H := []) (st' := ⟨sp [(0, .slice 1 (a0.map ceS)), (4, .mref true 0)] 0 61, [.obj (mapIs mkStr mkStr [])], [], []⟩) (ob := (True ∧ True)) (by kernel_rfl) ⟨trivial, trivial⟩ ?_
  refine AOps.done ?_
  obtain ⟨j3, e2, k4⟩ := jn_some h
  refine AWp.seqSum (σ := List ((List UInt8) × (List UInt8))) (fun s1 => ⟨sp [(4, .mref true 0)] 0 61, [.obj (mapIs mkStr mkStr s1)], [], []⟩) (fun s1 => j3 = .go s1) ?_ ?_
  ·
    refine AWp.seqX [4, 14, 15, 16] (tg := []) (H := [(15, .int .i64 (a0.length : Int))]) (st' := ⟨sp [(4, .mref true 0), (14, .slice 1 (a0.map ceS)), (15, .int .i64 (a0.length : Int)), (16, .int .i64 0)] 0 61, [.obj (mapIs mkStr mkStr [])], [], []⟩) (ob := (True ∧ (((True ∧ True) ∧ ((.int .i64 ((a0.map ceS).length : Int) : DV) = .int .i64 (a0.length : Int))) ∧ (True ∧ True)))) (by kernel_rfl) ⟨trivial, ⟨⟨⟨trivial, trivial⟩, (congrArg (fun n : Nat => DV.int .i64 n) (List.length_map _))⟩, ⟨trivial, trivial⟩⟩⟩ ?_
    refine AWp.block ?_
    refine AWp.loop (ι := {p : Nat × ((List ((List UInt8) × (List UInt8))) × Int) // vars_From_l0 a0 p.1 p.2 = some _}) (fun p => ⟨sp [(4, .mref true 0), (14, .slice 1 (a0.map ceS)), (15, .int .i64 (a0.length : Int)), (16, .int .i64 p.1.2.2)] 0 61, [.obj (mapIs mkStr mkStr p.1.2.1)], [], []⟩) (fun p => p.1.1) ⟨(fuel, ([], (0 : Int))), e2⟩ ⟨⟨.inl rfl, ⟨.inl rfl, ⟨.inl rfl, ⟨.inl rfl, ⟨.inr ⟨rfl, rfl⟩, ⟨.inl rfl, ⟨.inl rfl, ⟨.inl rfl, ⟨.inl rfl, ⟨.inl rfl, ⟨.inl rfl, ⟨.inl rfl, ⟨.inl rfl, ⟨.inl rfl, ⟨.inr ⟨rfl, rfl⟩, ⟨.inr ⟨rfl, rfl⟩, ⟨.inr ⟨rfl, rfl⟩, ⟨.inl rfl, ⟨.inl rfl, ⟨.inl rfl, ⟨.inl rfl, ⟨.inl rfl, ⟨.inl rfl, ⟨.inl rfl, ⟨.inl rfl, ⟨.inl rfl, ⟨.inl rfl, ⟨.inl rfl, ⟨.inl rfl, ⟨.inl rfl, ⟨.inl rfl, ⟨.inl rfl, ⟨.inl rfl, ⟨.inl rfl, ⟨.inl rfl, ⟨.inl rfl, ⟨.inl rfl, ⟨.inl rfl, ⟨.inl rfl, ⟨.inl rfl, ⟨.inl rfl, ⟨.inl rfl, ⟨.inl rfl, ⟨.inl rfl, ⟨.inl rfl, ⟨.inl rfl, ⟨.inl rfl, ⟨.inl rfl, ⟨.inl rfl, ⟨.inl rfl, ⟨.inl rfl, ⟨.inl rfl, ⟨.inl rfl, ⟨.inl rfl, ⟨.inl rfl, ⟨.inl rfl, ⟨.inl rfl, ⟨.inl rfl, ⟨.inl rfl, ⟨.inl rfl, ⟨.inl rfl, trivial⟩⟩⟩⟩⟩⟩⟩⟩⟩⟩⟩⟩⟩⟩⟩⟩⟩⟩⟩⟩⟩⟩⟩⟩⟩⟩⟩⟩⟩⟩⟩⟩⟩⟩⟩⟩⟩⟩⟩⟩⟩⟩⟩⟩⟩⟩⟩⟩⟩⟩⟩⟩⟩⟩⟩⟩⟩⟩⟩⟩⟩, rfl, rfl, rfl, ⟨_, .slnil, (.refl _)⟩, rfl⟩ ?_
    rintro ⟨⟨n6, x5⟩, h⟩
    cases n6 with
    | zero => cases h
    | succ n6 =>
      replace h : vars_From_l0_b a0 n6 (vars_From_l0 a0 n6) x5 = some _ := h
      unfold vars_From_l0_b at h
      refine AWp.seqX [4, 14, 15, 16, 17] (tg := []) (H := []) (st' := ⟨sp [(4, .mref true 0), (14, .slice 1 (a0.map ceS)), (15, .int .i64 (a0.length : Int)), (16, .int .i64 x5.2), (17, .bool (decide (x5.2 < (a0.length : Int))))] 0 61, [.obj (mapIs mkStr mkStr x5.1)], [], []⟩) (ob := ((True ∧ (True ∧ (IntKind.i64 = IntKind.i64))) ∧ True)) (by kernel_rfl) ⟨⟨trivial, ⟨trivial, rfl⟩⟩, trivial⟩ ?_
      refine AWp.seq ?_
      refine AWp.cond (b := decide (x5.2 < (a0.length : Int))) (by kernel_rfl) trivial (fun c7 => ?_) (fun c7 => ?_)
      · have h := cond_t c7 h
        refine AWp.skip ?_
        obtain ⟨j10, e9, k11⟩ := jn_some h
        refine AWp.seqSum (σ := List ((List UInt8) × (List UInt8))) (fun s8 => ⟨sp [(4, .mref true 0), (14, .slice 1 (a0.map ceS)), (15, .int .i64 (a0.length : Int)), (16, .int .i64 x5.2)] 0 61, [.obj (mapIs mkStr mkStr s8)], [], []⟩) (fun s8 => j10 = .go s8) ?_ ?_
        ·
          refine AWp.block ?_
          obtain ⟨⟨o12, o13⟩, h⟩ := req_some e9
          refine AWp.seqX [4, 6, 14, 15, 16] (tg := [6, 19]) (H := [(18, .cptr [.str (a0.getD (x5.2 : Int).toNat default)] 0)]) (st' := ⟨sp [(4, .mref true 0), (6, .str (a0.getD (x5.2 : Int).toNat default)), (14, .slice 1 (a0.map ceS)), (15, .int .i64 (a0.length : Int)), (16, .int .i64 x5.2)] 0 61, [.obj (mapIs mkStr mkStr x5.1)], [], []⟩) (ob := (((True ∧ (True ∧ (((0 : Int) ≤ x5.2) ∧ ((x5.2 < ((a0.map ceS).length : Int)) ∧ (1 = 1))))) ∧ ((.cptr ((a0.map ceS).getD (x5.2 : Int).toNat []) 0 : DV) = .cptr [.str (a0.getD (x5.2 : Int).toNat default)] 0)) ∧ ((True ∧ (0 < 1)) ∧ (True ∧ True)))) (by kernel_rfl) ⟨⟨⟨trivial, ⟨trivial, ⟨o12, ⟨(lt_map o13), rfl⟩⟩⟩⟩, (congrArg (fun c => DV.cptr c 0) (getD_encI ceS a0 (x5.2 : Int) o12 o13))⟩, ⟨⟨trivial, (by decide)⟩, ⟨trivial, trivial⟩⟩⟩ ?_
          refine AWp.seqO ?_
          refine AOps.runK [4, 14, 15, 16, 21] 1 (tg := [7, 8, 9, 23, 24, 25]) (H := []) (st' := ⟨sp [(4, .mref true 0), (14, .slice 1 (a0.map ceS)), (15, .int .i64 (a0.length : Int)), (16, .int .i64 x5.2), (21, .str (a0.getD (x5.2 : Int).toNat default))] 0 61, [.obj (mapIs mkStr mkStr x5.1)], [], []⟩) (ob := (True ∧ True)) (by kernel_rfl) ⟨trivial, trivial⟩ ?_
          obtain ⟨r14, e15, h⟩ := bind_some h
          refine AOps.call1 (ds := [.str (a0.getD (x5.2 : Int).toNat default), .str ([61] : List UInt8)]) (d := .tuple [.str r14.1, .str r14.2.1, .bool r14.2.2]) (ow := []) (st' := ⟨sp [(4, .mref true 0), (14, .slice 1 (a0.map ceS)), (15, .int .i64 (a0.length : Int)), (16, .int .i64 x5.2), (21, .str (a0.getD (x5.2 : Int).toNat default)), (22, .tuple [.str r14.1, .str r14.2.1, .bool r14.2.2])] 0 61, [.obj (mapIs mkStr mkStr x5.1)], [], []⟩) (by kernel_rfl) fk37 (by kernel_rfl) ⟨trivial, ⟨trivial, trivial⟩⟩ (by kernel_rfl) (strings_Cut_i0_ok (a0.getD (x5.2 : Int).toNat default) r14 e15) (by kernel_rfl) ?_
          refine AOps.runK [4, 7, 8, 9, 14, 15, 16] 7 (tg := [7, 8, 9, 23, 24, 25]) (H := []) (st' := ⟨sp [(4, .mref true 0), (7, .str r14.1), (8, .str r14.2.1), (9, .bool r14.2.2), (14, .slice 1 (a0.map ceS)), (15, .int .i64 (a0.length : Int)), (16, .int .i64 x5.2)] 0 61, [.obj (mapIs mkStr mkStr x5.1)], [], []⟩) (ob := (True ∧ ((True ∧ (0 < 3)) ∧ ((True ∧ (1 < 3)) ∧ ((True ∧ (2 < 3)) ∧ (True ∧ (True ∧ (True ∧ True)))))))) (by kernel_rfl) ⟨trivial, ⟨⟨trivial, (by decide)⟩, ⟨⟨trivial, (by decide)⟩, ⟨⟨trivial, (by decide)⟩, ⟨trivial, ⟨trivial, ⟨trivial, trivial⟩⟩⟩⟩⟩⟩⟩ ?_
          refine AOps.done ?_
          refine AWp.seq ?_
          refine AWp.seqO ?_
          refine AOps.runK [4, 7, 8, 14, 15, 16, 28, 29] 4 (tg := []) (H := []) (st' := ⟨sp [(4, .mref true 0), (7, .str r14.1), (8, .str r14.2.1), (14, .slice 1 (a0.map ceS)), (15, .int .i64 (a0.length : Int)), (16, .int .i64 x5.2), (28, .bool (!r14.2.2)), (29, .whn ((!r14.2.2) == false) (.str r14.1))] 0 61, [.obj (mapIs mkStr mkStr x5.1)], [], []⟩) (ob := (True ∧ (True ∧ (True ∧ ((((!r14.2.2) == false) = true → True) ∧ True))))) (by kernel_rfl) ⟨trivial, ⟨trivial, ⟨trivial, ⟨(fun hg0 => trivial), trivial⟩⟩⟩⟩ ?_
          obtain ⟨r16, e17, h⟩ := bind_some h
          refine AOps.call1G (ds := [.str r14.1]) (d := .bool r16) (t := 28) (g := ((!r14.2.2) == false)) (st' := ⟨sp [(4, .mref true 0), (7, .str r14.1), (8, .str r14.2.1), (14, .slice 1 (a0.map ceS)), (15, .int .i64 (a0.length : Int)), (16, .int .i64 x5.2), (28, .bool (!r14.2.2)), (29, .whn ((!r14.2.2) == false) (.str r14.1)), (30, .whn ((!r14.2.2) == false) (.bool r16))] 0 61, [.obj (mapIs mkStr mkStr x5.1)], [], []⟩) (by kernel_rfl) fk32 (by kernel_rfl) (by kernel_rfl) (by kernel_rfl) (by kernel_rfl) (fun hg => ⟨⟨⟨hg, trivial⟩, trivial⟩, chars_Name_ok n6 r14.1 r16 (cond_t hg e17)⟩) (by kernel_rfl) ?_
          refine AOps.runK [4, 7, 8, 14, 15, 16, 32] 2 (tg := []) (H := []) (st' := ⟨sp [(4, .mref true 0), (7, .str r14.1), (8, .str r14.2.1), (14, .slice 1 (a0.map ceS)), (15, .int .i64 (a0.length : Int)), (16, .int .i64 x5.2), (32, .bool (cond (!r14.2.2) true (!r16)))] 0 61, [.obj (mapIs mkStr mkStr x5.1)], [], []⟩) (ob := ((((!r14.2.2) == false) = true → ((((!r14.2.2) == false) = true) ∧ True)) ∧ ((True ∧ (((!r14.2.2) = true → True) ∧ ((!r14.2.2) = false → ((((!r14.2.2) == false) = true) ∧ True)))) ∧ True))) (by kernel_rfl) ⟨(fun hg0 => ⟨hg0, trivial⟩), ⟨⟨trivial, ⟨(fun hg0 => trivial), (fun hg0 => ⟨(beqF hg0), trivial⟩)⟩⟩, trivial⟩⟩ ?_
          refine AOps.done ?_
          refine AWp.cond (b := cond (!r14.2.2) true (!r16)) (by kernel_rfl) trivial (fun c18 => ?_) (fun c18 => ?_)
          · have h := cond_t c18 h
            refine AWp.exit ?_
            obtain rfl := Option.some.inj h
            exact ⟨_, rfl, ⟨⟨.inl rfl, ⟨.inl rfl, ⟨.inl rfl, ⟨.inl rfl, ⟨.inr ⟨rfl, rfl⟩, ⟨.inl rfl, ⟨.inl rfl, ⟨.inl rfl, ⟨.inl rfl, ⟨.inl rfl, ⟨.inl rfl, ⟨.inl rfl, ⟨.inl rfl, ⟨.inl rfl, ⟨.inr ⟨rfl, rfl⟩, ⟨.inr ⟨rfl, rfl⟩, ⟨.inr ⟨rfl, rfl⟩, ⟨.inl rfl, ⟨.inl rfl, ⟨.inl rfl, ⟨.inl rfl, ⟨.inl rfl, ⟨.inl rfl, ⟨.inl rfl, ⟨.inl rfl, ⟨.inl rfl, ⟨.inl rfl, ⟨.inl rfl, ⟨.inl rfl, ⟨.inl rfl, ⟨.inl rfl, ⟨.inl rfl, ⟨.inl rfl, ⟨.inl rfl, ⟨.inl rfl, ⟨.inl rfl, ⟨.inl rfl, ⟨.inl rfl, ⟨.inl rfl, ⟨.inl rfl, ⟨.inl rfl, ⟨.inl rfl, ⟨.inl rfl, ⟨.inl rfl, ⟨.inl rfl, ⟨.inl rfl, ⟨.inl rfl, ⟨.inl rfl, ⟨.inl rfl, ⟨.inl rfl, ⟨.inl rfl, ⟨.inl rfl, ⟨.inl rfl, ⟨.inl rfl, ⟨.inl rfl, ⟨.inl rfl, ⟨.inl rfl, ⟨.inl rfl, ⟨.inl rfl, ⟨.inl rfl, ⟨.inl rfl, trivial⟩⟩⟩⟩⟩⟩⟩⟩⟩⟩⟩⟩⟩⟩⟩⟩⟩⟩⟩⟩⟩⟩⟩⟩⟩⟩⟩⟩⟩⟩⟩⟩⟩⟩⟩⟩⟩⟩⟩⟩⟩⟩⟩⟩⟩⟩⟩⟩⟩⟩⟩⟩⟩⟩⟩⟩⟩⟩⟩⟩⟩, rfl, rfl, rfl, ⟨_, .slnil, (.refl _)⟩, rfl⟩⟩
          · have h := cond_f c18 h
            refine AWp.skip ?_
            refine AWp.seq ?_
            refine AWp.seqX [4, 7, 8, 14, 15, 16, 35] (tg := []) (H := []) (st' := ⟨sp [(4, .mref true 0), (7, .str r14.1), (8, .str r14.2.1), (14, .slice 1 (a0.map ceS)), (15, .int .i64 (a0.length : Int)), (16, .int .i64 x5.2), (35, .bool (decide (4096 < (r14.2.1.length : Int))))] 0 61, [.obj (mapIs mkStr mkStr x5.1)], [], []⟩) (ob := (True ∧ ((True ∧ True) ∧ ((True ∧ (True ∧ (IntKind.i64 = IntKind.i64))) ∧ True)))) (by kernel_rfl) ⟨trivial, ⟨⟨trivial, trivial⟩, ⟨⟨trivial, ⟨trivial, rfl⟩⟩, trivial⟩⟩⟩ ?_
            refine AWp.cond (b := decide (4096 < (r14.2.1.length : Int))) (by kernel_rfl) trivial (fun c19 => ?_) (fun c19 => ?_)
            · have h := cond_t c19 h
              refine AWp.seqX [2, 3] (tg := []) (H := []) (st' := ⟨sp [(2, .val (.slice none 0 0)), (3, .int .i64 3)] 0 61, [.obj (mapIs mkStr mkStr x5.1)], [], []⟩) (ob := (True ∧ (True ∧ True))) (by kernel_rfl) ⟨trivial, ⟨trivial, trivial⟩⟩ ?_
              refine AWp.nilowns [(2, 26, 5)] (st' := ⟨sp [(2, .slice 5 []), (3, .int .i64 3)] 0 61, [.obj (mapIs mkStr mkStr x5.1)], [], [⟨.slot 2, 26, 5⟩]⟩) (by kernel_rfl) (by kernel_rfl) ?_
              refine AWp.ret ?_
              have h := jk_some h k11
              have h := jk_some h k4
              obtain rfl := Option.some.inj h
              exact ⟨[.slice 5 [], .int .i64 3], (True ∧ (True ∧ True)), by kernel_rfl, ⟨trivial, ⟨trivial, trivial⟩⟩, by kernel_rfl, ACalls.eq_of rfl rfl rfl rfl⟩
            · have h := cond_f c19 h
              refine AWp.skip ?_
              refine AWp.region ?_
              refine AOps.runK [4, 14, 15, 16, 36, 37, 38] 3 (tg := []) (H := []) (st' := ⟨sp [(4, .mref true 0), (14, .slice 1 (a0.map ceS)), (15, .int .i64 (a0.length : Int)), (16, .int .i64 x5.2), (36, .mref true 0), (37, .str r14.1), (38, .str r14.2.1)] 0 61, [.obj (mapIs mkStr mkStr x5.1)], [], []⟩) (ob := (True ∧ (True ∧ (True ∧ True)))) (by kernel_rfl) ⟨trivial, ⟨trivial, ⟨trivial, trivial⟩⟩⟩ ?_
              refine AOps.mapUpdate keyOk_str (l := true) (r := 0) (m := x5.1) (k := r14.1) (v := r14.2.1) (dk := .str r14.1) (dv := .str r14.2.1) (st' := ⟨sp [(4, .mref true 0), (14, .slice 1 (a0.map ceS)), (15, .int .i64 (a0.length : Int)), (16, .int .i64 x5.2), (36, .mref true 0), (37, .str r14.1), (38, .str r14.2.1)] 0 61, [.obj (mapIs mkStr mkStr (mset x5.1 r14.1 r14.2.1))], [], []⟩) (kt := 9) (et := 9) (by kernel_rfl) (by kernel_rfl) (by kernel_rfl) (by kernel_rfl) (by kernel_rfl) trivial (by kernel_rfl) trivial (fun _ _ _ _ h => h.str_inv) (fun _ _ _ _ h => h.str_inv) (by kernel_rfl) ?_
              refine AOps.nil ?_
              obtain rfl := Option.some.inj h
              exact ⟨_, rfl, ⟨⟨.inl rfl, ⟨.inl rfl, ⟨.inl rfl, ⟨.inl rfl, ⟨.inr ⟨rfl, rfl⟩, ⟨.inl rfl, ⟨.inl rfl, ⟨.inl rfl, ⟨.inl rfl, ⟨.inl rfl, ⟨.inl rfl, ⟨.inl rfl, ⟨.inl rfl, ⟨.inl rfl, ⟨.inr ⟨rfl, rfl⟩, ⟨.inr ⟨rfl, rfl⟩, ⟨.inr ⟨rfl, rfl⟩, ⟨.inl rfl, ⟨.inl rfl, ⟨.inl rfl, ⟨.inl rfl, ⟨.inl rfl, ⟨.inl rfl, ⟨.inl rfl, ⟨.inl rfl, ⟨.inl rfl, ⟨.inl rfl, ⟨.inl rfl, ⟨.inl rfl, ⟨.inl rfl, ⟨.inl rfl, ⟨.inl rfl, ⟨.inl rfl, ⟨.inl rfl, ⟨.inl rfl, ⟨.inl rfl, ⟨.inl rfl, ⟨.inl rfl, ⟨.inl rfl, ⟨.inl rfl, ⟨.inl rfl, ⟨.inl rfl, ⟨.inl rfl, ⟨.inl rfl, ⟨.inl rfl, ⟨.inl rfl, ⟨.inl rfl, ⟨.inl rfl, ⟨.inl rfl, ⟨.inl rfl, ⟨.inl rfl, ⟨.inl rfl, ⟨.inl rfl, ⟨.inl rfl, ⟨.inl rfl, ⟨.inl rfl, ⟨.inl rfl, ⟨.inl rfl, ⟨.inl rfl, ⟨.inl rfl, ⟨.inl rfl, trivial⟩⟩⟩⟩⟩⟩⟩⟩⟩⟩⟩⟩⟩⟩⟩⟩⟩⟩⟩⟩⟩⟩⟩⟩⟩⟩⟩⟩⟩⟩⟩⟩⟩⟩⟩⟩⟩⟩⟩⟩⟩⟩⟩⟩⟩⟩⟩⟩⟩⟩⟩⟩⟩⟩⟩⟩⟩⟩⟩⟩⟩, rfl, rfl, rfl, ⟨_, .slnil, (.refl _)⟩, rfl⟩⟩
        · intro s8 s8h
          have h := jk_go s8h k11
          refine AWp.tailN [4, 14, 15, 16] [] (tg := []) (H := []) (st' := ⟨sp [(4, .mref true 0), (14, .slice 1 (a0.map ceS)), (15, .int .i64 (a0.length : Int)), (16, .int .i64 (IntKind.i64.wrap (x5.2 + 1)))] 0 61, [.obj (mapIs mkStr mkStr s8)], [], []⟩) (ob := ((True ∧ (True ∧ (IntKind.i64 = IntKind.i64))) ∧ (True ∧ True))) (by kernel_rfl) ⟨⟨trivial, ⟨trivial, rfl⟩⟩, ⟨trivial, trivial⟩⟩ ?_
          exact ⟨⟨(n6, (s8, IntKind.i64.wrap (x5.2 + 1))), h⟩, Nat.lt_succ_self _, ⟨⟨.inl rfl, ⟨.inl rfl, ⟨.inl rfl, ⟨.inl rfl, ⟨.inr ⟨rfl, rfl⟩, ⟨.inl rfl, ⟨.inl rfl, ⟨.inl rfl, ⟨.inl rfl, ⟨.inl rfl, ⟨.inl rfl, ⟨.inl rfl, ⟨.inl rfl, ⟨.inl rfl, ⟨.inr ⟨rfl, rfl⟩, ⟨.inr ⟨rfl, rfl⟩, ⟨.inr ⟨rfl, rfl⟩, ⟨.inl rfl, ⟨.inl rfl, ⟨.inl rfl, ⟨.inl rfl, ⟨.inl rfl, ⟨.inl rfl, ⟨.inl rfl, ⟨.inl rfl, ⟨.inl rfl, ⟨.inl rfl, ⟨.inl rfl, ⟨.inl rfl, ⟨.inl rfl, ⟨.inl rfl, ⟨.inl rfl, ⟨.inl rfl, ⟨.inl rfl, ⟨.inl rfl, ⟨.inl rfl, ⟨.inl rfl, ⟨.inl rfl, ⟨.inl rfl, ⟨.inl rfl, ⟨.inl rfl, ⟨.inl rfl, ⟨.inl rfl, ⟨.inl rfl, ⟨.inl rfl, ⟨.inl rfl, ⟨.inl rfl, ⟨.inl rfl, ⟨.inl rfl, ⟨.inl rfl, ⟨.inl rfl, ⟨.inl rfl, ⟨.inl rfl, ⟨.inl rfl, ⟨.inl rfl, ⟨.inl rfl, ⟨.inl rfl, ⟨.inl rfl, ⟨.inl rfl, ⟨.inl rfl, ⟨.inl rfl, trivial⟩⟩⟩⟩⟩⟩⟩⟩⟩⟩⟩⟩⟩⟩⟩⟩⟩⟩⟩⟩⟩⟩⟩⟩⟩⟩⟩⟩⟩⟩⟩⟩⟩⟩⟩⟩⟩⟩⟩⟩⟩⟩⟩⟩⟩⟩⟩⟩⟩⟩⟩⟩⟩⟩⟩⟩⟩⟩⟩⟩⟩, rfl, rfl, rfl, ⟨_, .slnil, (.refl _)⟩, rfl⟩⟩
      · have h := cond_f c7 h
        refine AWp.exit ?_
        obtain rfl := Option.some.inj h
        exact ⟨_, rfl, ⟨⟨.inl rfl, ⟨.inl rfl, ⟨.inl rfl, ⟨.inl rfl, ⟨.inr ⟨rfl, rfl⟩, ⟨.inl rfl, ⟨.inl rfl, ⟨.inl rfl, ⟨.inl rfl, ⟨.inl rfl, ⟨.inl rfl, ⟨.inl rfl, ⟨.inl rfl, ⟨.inl rfl, ⟨.inl rfl, ⟨.inl rfl, ⟨.inl rfl, ⟨.inl rfl, ⟨.inl rfl, ⟨.inl rfl, ⟨.inl rfl, ⟨.inl rfl, ⟨.inl rfl, ⟨.inl rfl, ⟨.inl rfl, ⟨.inl rfl, ⟨.inl rfl, ⟨.inl rfl, ⟨.inl rfl, ⟨.inl rfl, ⟨.inl rfl, ⟨.inl rfl, ⟨.inl rfl, ⟨.inl rfl, ⟨.inl rfl, ⟨.inl rfl, ⟨.inl rfl, ⟨.inl rfl, ⟨.inl rfl, ⟨.inl rfl, ⟨.inl rfl, ⟨.inl rfl, ⟨.inl rfl, ⟨.inl rfl, ⟨.inl rfl, ⟨.inl rfl, ⟨.inl rfl, ⟨.inl rfl, ⟨.inl rfl, ⟨.inl rfl, ⟨.inl rfl, ⟨.inl rfl, ⟨.inl rfl, ⟨.inl rfl, ⟨.inl rfl, ⟨.inl rfl, ⟨.inl rfl, ⟨.inl rfl, ⟨.inl rfl, ⟨.inl rfl, ⟨.inl rfl, trivial⟩⟩⟩⟩⟩⟩⟩⟩⟩⟩⟩⟩⟩⟩⟩⟩⟩⟩⟩⟩⟩⟩⟩⟩⟩⟩⟩⟩⟩⟩⟩⟩⟩⟩⟩⟩⟩⟩⟩⟩⟩⟩⟩⟩⟩⟩⟩⟩⟩⟩⟩⟩⟩⟩⟩⟩⟩⟩⟩⟩⟩, rfl, rfl, rfl, ⟨_, .slnil, (.refl _)⟩, rfl⟩⟩
  · intro s1 s1h
    have h := jk_go s1h k4
    refine AWp.seq ?_
    refine AWp.seqO ?_
    refine AOps.runK [4, 40] 1 (tg := []) (H := []) (st' := ⟨sp [(4, .mref true 0), (40, .mref true 0)] 0 61, [.obj (mapIs mkStr mkStr s1)], [], []⟩) (ob := (True ∧ True)) (by kernel_rfl) ⟨trivial, trivial⟩ ?_
    refine AOps.mapLen (l := true) (r := 0) (m := s1) (ek := mkStr) (ev := mkStr) (st' := ⟨sp [(4, .mref true 0), (40, .mref true 0), (41, .int .i64 (s1.length : Int))] 0 61, [.obj (mapIs mkStr mkStr s1)], [], []⟩) (kt := 9) (et := 9) (by kernel_rfl) (by kernel_rfl) (by kernel_rfl) (by kernel_rfl) ?_
    refine AOps.runK [4, 42] 1 (tg := []) (H := []) (st' := ⟨sp [(4, .mref true 0), (42, .bool (decide (128 < (s1.length : Int))))] 0 61, [.obj (mapIs mkStr mkStr s1)], [], []⟩) (ob := ((True ∧ (True ∧ (IntKind.i64 = IntKind.i64))) ∧ True)) (by kernel_rfl) ⟨⟨trivial, ⟨trivial, rfl⟩⟩, trivial⟩ ?_
    refine AOps.done ?_
    refine AWp.cond (b := decide (128 < (s1.length : Int))) (by kernel_rfl) trivial (fun c7 => ?_) (fun c7 => ?_)
    · have h := cond_t c7 h
      refine AWp.seqX [2, 3] (tg := []) (H := []) (st' := ⟨sp [(2, .val (.slice none 0 0)), (3, .int .i64 4)] 0 61, [.obj (mapIs mkStr mkStr s1)], [], []⟩) (ob := (True ∧ (True ∧ True))) (by kernel_rfl) ⟨trivial, ⟨trivial, trivial⟩⟩ ?_
      refine AWp.nilowns [(2, 26, 5)] (st' := ⟨sp [(2, .slice 5 []), (3, .int .i64 4)] 0 61, [.obj (mapIs mkStr mkStr s1)], [], [⟨.slot 2, 26, 5⟩]⟩) (by kernel_rfl) (by kernel_rfl) ?_
      refine AWp.ret ?_
      obtain rfl := Option.some.inj h
      exact ⟨[.slice 5 [], .int .i64 4], (True ∧ (True ∧ True)), by kernel_rfl, ⟨trivial, ⟨trivial, trivial⟩⟩, by kernel_rfl, ACalls.eq_of rfl rfl rfl rfl⟩
    · have h := cond_f c7 h
      refine AWp.skip ?_
      refine AWp.seqX [4, 10] (tg := []) (H := []) (st' := ⟨sp [(4, .mref true 0), (10, .val (.slice none 0 0))] 0 61, [.obj (mapIs mkStr mkStr s1)], [], []⟩) (ob := (True ∧ True)) (by kernel_rfl) ⟨trivial, trivial⟩ ?_
      refine AWp.nilowns [(10, 26, 5)] (st' := ⟨sp [(4, .mref true 0), (10, .slice 5 [])] 0 61, [.obj (mapIs mkStr mkStr s1)], [], [⟨.slot 10, 26, 5⟩]⟩) (by kernel_rfl) (by kernel_rfl) ?_
      obtain ⟨s8, e9, h⟩ := bind_some h
      refine AWp.seqMid ⟨sp [(10, .slice 5 (s8.map encTVar))] 0 61, [.obj (mapIs mkStr mkStr s1)], [], [⟨.slot 10, 26, 5⟩]⟩ ?_ ?_
      ·
        refine AWp.seqO ?_
        refine AOps.runK [4, 10, 43] 1 (tg := []) (H := []) (st' := ⟨sp [(4, .mref true 0), (10, .slice 5 []), (43, .mref true 0)] 0 61, [.obj (mapIs mkStr mkStr s1)], [], [⟨.slot 10, 26, 5⟩]⟩) (ob := (True ∧ True)) (by kernel_rfl) ⟨trivial, trivial⟩ ?_
        obtain ⟨⟨o10, o11⟩, h⟩ := req_some e9
        refine AOps.sortedKeys (l := true) (r := 0) (m := s1) (ev := mkStr) sortedKeys (kt := 9) (by kernel_rfl) (st' := ⟨sp [(4, .mref true 0), (10, .slice 5 []), (43, .mref true 0), (45, .slice 1 ((sortK (s1.map (·.1))).map ceS))] 0 61, [.obj (mapIs mkStr mkStr s1)], [], [⟨.slot 45, 9, 1⟩, ⟨.slot 10, 26, 5⟩]⟩) (by kernel_rfl) fk39 (by kernel_rfl) fk38 trivial (Nat.le_of_ble_eq_true (by kernel_rfl)) (by kernel_rfl) (by kernel_rfl) o10 o11 (by kernel_rfl) ?_
        refine AOps.runK [4, 10, 45, 46, 47] 2 (tg := []) (H := [(46, .int .i64 ((sortK (s1.map (·.1))).length : Int))]) (st' := ⟨sp [(4, .mref true 0), (10, .slice 5 []), (45, .slice 1 ((sortK (s1.map (·.1))).map ceS)), (46, .int .i64 ((sortK (s1.map (·.1))).length : Int)), (47, .int .i64 0)] 0 61, [.obj (mapIs mkStr mkStr s1)], [], [⟨.slot 45, 9, 1⟩, ⟨.slot 10, 26, 5⟩]⟩) (ob := (((True ∧ True) ∧ ((.int .i64 (((sortK (s1.map (·.1))).map ceS).length : Int) : DV) = .int .i64 ((sortK (s1.map (·.1))).length : Int))) ∧ (True ∧ True))) (by kernel_rfl) ⟨⟨⟨trivial, trivial⟩, (congrArg (fun n : Nat => DV.int .i64 n) (List.length_map _))⟩, ⟨trivial, trivial⟩⟩ ?_
        refine AOps.done ?_
        refine AWp.block ?_
        refine AWp.loop (ι := {p : Nat × ((List TVar) × Int) // vars_From_l1 s1 p.1 p.2 = some _}) (fun p => ⟨sp [(4, .mref true 0), (10, .slice 5 (p.1.2.1.map encTVar)), (45, .slice 1 ((sortK (s1.map (·.1))).map ceS)), (46, .int .i64 ((sortK (s1.map (·.1))).length : Int)), (47, .int .i64 p.1.2.2)] 0 61, [.obj (mapIs mkStr mkStr s1)], [], [⟨.slot 45, 9, 1⟩, ⟨.slot 10, 26, 5⟩]⟩) (fun p => p.1.1) ⟨(fuel, ([], (0 : Int))), h⟩ ⟨⟨.inl rfl, ⟨.inl rfl, ⟨.inl rfl, ⟨.inl rfl, ⟨.inr ⟨rfl, rfl⟩, ⟨.inl rfl, ⟨.inl rfl, ⟨.inl rfl, ⟨.inl rfl, ⟨.inl rfl, ⟨.inr ⟨rfl, rfl⟩, ⟨.inl rfl, ⟨.inl rfl, ⟨.inl rfl, ⟨.inl rfl, ⟨.inl rfl, ⟨.inl rfl, ⟨.inl rfl, ⟨.inl rfl, ⟨.inl rfl, ⟨.inl rfl, ⟨.inl rfl, ⟨.inl rfl, ⟨.inl rfl, ⟨.inl rfl, ⟨.inl rfl, ⟨.inl rfl, ⟨.inl rfl, ⟨.inl rfl, ⟨.inl rfl, ⟨.inl rfl, ⟨.inl rfl, ⟨.inl rfl, ⟨.inl rfl, ⟨.inl rfl, ⟨.inl rfl, ⟨.inl rfl, ⟨.inl rfl, ⟨.inl rfl, ⟨.inl rfl, ⟨.inl rfl, ⟨.inl rfl, ⟨.inl rfl, ⟨.inl rfl, ⟨.inl rfl, ⟨.inr ⟨rfl, rfl⟩, ⟨.inr ⟨rfl, rfl⟩, ⟨.inr ⟨rfl, rfl⟩, ⟨.inl rfl, ⟨.inl rfl, ⟨.inl rfl, ⟨.inl rfl, ⟨.inl rfl, ⟨.inl rfl, ⟨.inl rfl, ⟨.inl rfl, ⟨.inl rfl, ⟨.inl rfl, ⟨.inl rfl, ⟨.inl rfl, ⟨.inl rfl, trivial⟩⟩⟩⟩⟩⟩⟩⟩⟩⟩⟩⟩⟩⟩⟩⟩⟩⟩⟩⟩⟩⟩⟩⟩⟩⟩⟩⟩⟩⟩⟩⟩⟩⟩⟩⟩⟩⟩⟩⟩⟩⟩⟩⟩⟩⟩⟩⟩⟩⟩⟩⟩⟩⟩⟩⟩⟩⟩⟩⟩⟩, rfl, rfl, rfl, ⟨_, (.cons_cons _ (.cons_cons _ .slnil)), (.refl _)⟩, rfl⟩ ?_
        rintro ⟨⟨n13, x12⟩, h⟩
        cases n13 with
        | zero => cases h
        | succ n13 =>
          replace h : vars_From_l1_b s1 n13 (vars_From_l1 s1 n13) x12 = some _ := h
          unfold vars_From_l1_b at h
          refine AWp.seqX [4, 10, 45, 46, 47, 48] (tg := []) (H := []) (st' := ⟨sp [(4, .mref true 0), (10, .slice 5 (x12.1.map encTVar)), (45, .slice 1 ((sortK (s1.map (·.1))).map ceS)), (46, .int .i64 ((sortK (s1.map (·.1))).length : Int)), (47, .int .i64 x12.2), (48, .bool (decide (x12.2 < ((sortK (s1.map (·.1))).length : Int))))] 0 61, [.obj (mapIs mkStr mkStr s1)], [], [⟨.slot 45, 9, 1⟩, ⟨.slot 10, 26, 5⟩]⟩) (ob := ((True ∧ (True ∧ (IntKind.i64 = IntKind.i64))) ∧ True)) (by kernel_rfl) ⟨⟨trivial, ⟨trivial, rfl⟩⟩, trivial⟩ ?_
          refine AWp.seq ?_
          refine AWp.cond (b := decide (x12.2 < ((sortK (s1.map (·.1))).length : Int))) (by kernel_rfl) trivial (fun c14 => ?_) (fun c14 => ?_)
          · have h := cond_t c14 h
            refine AWp.skip ?_
            refine AWp.seq ?_
            refine AWp.block ?_
            obtain ⟨⟨o15, o16⟩, h⟩ := req_some h
            refine AWp.seqX [4, 10, 12, 45, 46, 47] (tg := [12, 50]) (H := [(49, .cptr [.str ((sortK (s1.map (·.1))).getD (x12.2 : Int).toNat default)] 0)]) (st' := ⟨sp [(4, .mref true 0), (10, .slice 5 (x12.1.map encTVar)), (12, .str ((sortK (s1.map (·.1))).getD (x12.2 : Int).toNat default)), (45, .slice 1 ((sortK (s1.map (·.1))).map ceS)), (46, .int .i64 ((sortK (s1.map (·.1))).length : Int)), (47, .int .i64 x12.2)] 0 61, [.obj (mapIs mkStr mkStr s1)], [], [⟨.slot 45, 9, 1⟩, ⟨.slot 10, 26, 5⟩]⟩) (ob := (((True ∧ (True ∧ (((0 : Int) ≤ x12.2) ∧ ((x12.2 < (((sortK (s1.map (·.1))).map ceS).length : Int)) ∧ (1 = 1))))) ∧ ((.cptr (((sortK (s1.map (·.1))).map ceS).getD (x12.2 : Int).toNat []) 0 : DV) = .cptr [.str ((sortK (s1.map (·.1))).getD (x12.2 : Int).toNat default)] 0)) ∧ ((True ∧ (0 < 1)) ∧ (True ∧ True)))) (by kernel_rfl) ⟨⟨⟨trivial, ⟨trivial, ⟨o15, ⟨(lt_map o16), rfl⟩⟩⟩⟩, (congrArg (fun c => DV.cptr c 0) (getD_encI ceS (sortK (s1.map (·.1))) (x12.2 : Int) o15 o16))⟩, ⟨⟨trivial, (by decide)⟩, ⟨trivial, trivial⟩⟩⟩ ?_
            refine AWp.region ?_
            refine AOps.runK [4, 45, 46, 47, 51, 52, 53, 54] 4 (tg := [10, 51, 58]) (H := []) (st' := ⟨sp [(4, .mref true 0), (45, .slice 1 ((sortK (s1.map (·.1))).map ceS)), (46, .int .i64 ((sortK (s1.map (·.1))).length : Int)), (47, .int .i64 x12.2), (51, .slice 5 (x12.1.map encTVar)), (52, .str ((sortK (s1.map (·.1))).getD (x12.2 : Int).toNat default)), (53, .mref true 0), (54, .str ((sortK (s1.map (·.1))).getD (x12.2 : Int).toNat default))] 0 61, [.obj (mapIs mkStr mkStr s1)], [], [⟨.slot 45, 9, 1⟩, ⟨.slot 51, 26, 5⟩]⟩) (ob := (True ∧ (True ∧ (True ∧ (True ∧ True))))) (by kernel_rfl) ⟨trivial, ⟨trivial, ⟨trivial, ⟨trivial, trivial⟩⟩⟩⟩ ?_
            refine AOps.mapLook keyOk_str [] DV.str (l := true) (r := 0) (m := s1) (k := ((sortK (s1.map (·.1))).getD (x12.2 : Int).toNat default)) (dk := .str ((sortK (s1.map (·.1))).getD (x12.2 : Int).toNat default)) (st' := ⟨sp [(4, .mref true 0), (45, .slice 1 ((sortK (s1.map (·.1))).map ceS)), (46, .int .i64 ((sortK (s1.map (·.1))).length : Int)), (47, .int .i64 x12.2), (51, .slice 5 (x12.1.map encTVar)), (52, .str ((sortK (s1.map (·.1))).getD (x12.2 : Int).toNat default)), (53, .mref true 0), (54, .str ((sortK (s1.map (·.1))).getD (x12.2 : Int).toNat default)), (55, .str (mget s1 ((sortK (s1.map (·.1))).getD (x12.2 : Int).toNat default) []))] 0 61, [.obj (mapIs mkStr mkStr s1)], [], [⟨.slot 45, 9, 1⟩, ⟨.slot 51, 26, 5⟩]⟩) (kt := 9) (et := 9) (by kernel_rfl) (by kernel_rfl) T9 (by kernel_rfl) (by kernel_rfl) (by kernel_rfl) (by kernel_rfl) trivial (fun _ _ _ _ h => h.str_inv) (fun _ _ i v => .str i v) (by kernel_rfl) ?_
            obtain ⟨⟨o17, o18⟩, h⟩ := req_some h
            refine AOps.runK [4, 10, 45, 46, 47] 4 (tg := [10, 51, 58]) (H := [(57, .slice 5 ([(TVar.mk ((sortK (s1.map (·.1))).getD (x12.2 : Int).toNat default) (mget s1 ((sortK (s1.map (·.1))).getD (x12.2 : Int).toNat default) []) true true false)].map encTVar)), (58, .slice 5 ((x12.1 ++ [(TVar.mk ((sortK (s1.map (·.1))).getD (x12.2 : Int).toNat default) (mget s1 ((sortK (s1.map (·.1))).getD (x12.2 : Int).toNat default) []) true true false)]).map encTVar))]) (st' := ⟨sp [(4, .mref true 0), (10, .slice 5 ((x12.1 ++ [(TVar.mk ((sortK (s1.map (·.1))).getD (x12.2 : Int).toNat default) (mget s1 ((sortK (s1.map (·.1))).getD (x12.2 : Int).toNat default) []) true true false)]).map encTVar)), (45, .slice 1 ((sortK (s1.map (·.1))).map ceS)), (46, .int .i64 ((sortK (s1.map (·.1))).length : Int)), (47, .int .i64 x12.2)] 0 61, [.obj (mapIs mkStr mkStr s1)], [], [⟨.slot 10, 26, 5⟩, ⟨.slot 45, 9, 1⟩]⟩) (ob := ((True ∧ ((true = true) ∧ (True ∧ ((true = true) ∧ (True ∧ ((true = true) ∧ (True ∧ ((true = true) ∧ (true = true))))))))) ∧ ((((true = true) ∧ (True ∧ ((true = true) ∧ True))) ∧ ((.slice 5 [[.str ((sortK (s1.map (·.1))).getD (x12.2 : Int).toNat default), .str (mget s1 ((sortK (s1.map (·.1))).getD (x12.2 : Int).toNat default) []), .bool true, .bool true, .bool false]] : DV) = .slice 5 ([(TVar.mk ((sortK (s1.map (·.1))).getD (x12.2 : Int).toNat default) (mget s1 ((sortK (s1.map (·.1))).getD (x12.2 : Int).toNat default) []) true true false)].map encTVar))) ∧ (((True ∧ (True ∧ ((true = true) ∧ ((((x12.1.map encTVar) : List (List DV)).length + (([(TVar.mk ((sortK (s1.map (·.1))).getD (x12.2 : Int).toNat default) (mget s1 ((sortK (s1.map (·.1))).getD (x12.2 : Int).toNat default) []) true true false)].map encTVar) : List (List DV)).length ≤ 9223372036854775807) ∧ ((((x12.1.map encTVar) : List (List DV)).length + (([(TVar.mk ((sortK (s1.map (·.1))).getD (x12.2 : Int).toNat default) (mget s1 ((sortK (s1.map (·.1))).getD (x12.2 : Int).toNat default) []) true true false)].map encTVar) : List (List DV)).length) * 40 ≤ 140737488355328))))) ∧ ((.slice 5 ((x12.1.map encTVar) ++ ([(TVar.mk ((sortK (s1.map (·.1))).getD (x12.2 : Int).toNat default) (mget s1 ((sortK (s1.map (·.1))).getD (x12.2 : Int).toNat default) []) true true false)].map encTVar)) : DV) = .slice 5 ((x12.1 ++ [(TVar.mk ((sortK (s1.map (·.1))).getD (x12.2 : Int).toNat default) (mget s1 ((sortK (s1.map (·.1))).getD (x12.2 : Int).toNat default) []) true true false)]).map encTVar))) ∧ (True ∧ True))))) (by kernel_rfl) ⟨⟨trivial, ⟨rfl, ⟨trivial, ⟨rfl, ⟨trivial, ⟨rfl, ⟨trivial, ⟨rfl, rfl⟩⟩⟩⟩⟩⟩⟩⟩, ⟨⟨⟨rfl, ⟨trivial, ⟨rfl, trivial⟩⟩⟩, rfl⟩, ⟨⟨⟨trivial, ⟨trivial, ⟨rfl, ⟨(by simpa using o17), (by simpa using o18)⟩⟩⟩⟩, (congrArg (DV.slice 5) (List.map_append (f := encTVar) (l₁ := x12.1) (l₂ := [(TVar.mk ((sortK (s1.map (·.1))).getD (x12.2 : Int).toNat default) (mget s1 ((sortK (s1.map (·.1))).getD (x12.2 : Int).toNat default) []) true true false)])).symm)⟩, ⟨trivial, trivial⟩⟩⟩⟩ ?_
            refine AOps.nil ?_
            refine AWp.tailN [4, 10, 45, 46, 47] [] (tg := []) (H := []) (st' := ⟨sp [(4, .mref true 0), (10, .slice 5 ((x12.1 ++ [(TVar.mk ((sortK (s1.map (·.1))).getD (x12.2 : Int).toNat default) (mget s1 ((sortK (s1.map (·.1))).getD (x12.2 : Int).toNat default) []) true true false)]).map encTVar)), (45, .slice 1 ((sortK (s1.map (·.1))).map ceS)), (46, .int .i64 ((sortK (s1.map (·.1))).length : Int)), (47, .int .i64 (IntKind.i64.wrap (x12.2 + 1)))] 0 61, [.obj (mapIs mkStr mkStr s1)], [], [⟨.slot 10, 26, 5⟩, ⟨.slot 45, 9, 1⟩]⟩) (ob := ((True ∧ (True ∧ (IntKind.i64 = IntKind.i64))) ∧ (True ∧ True))) (by kernel_rfl) ⟨⟨trivial, ⟨trivial, rfl⟩⟩, ⟨trivial, trivial⟩⟩ ?_
            exact ⟨⟨(n13, (x12.1 ++ [(TVar.mk ((sortK (s1.map (·.1))).getD (x12.2 : Int).toNat default) (mget s1 ((sortK (s1.map (·.1))).getD (x12.2 : Int).toNat default) []) true true false)], IntKind.i64.wrap (x12.2 + 1))), h⟩, Nat.lt_succ_self _, ⟨⟨.inl rfl, ⟨.inl rfl, ⟨.inl rfl, ⟨.inl rfl, ⟨.inr ⟨rfl, rfl⟩, ⟨.inl rfl, ⟨.inl rfl, ⟨.inl rfl, ⟨.inl rfl, ⟨.inl rfl, ⟨.inr ⟨rfl, rfl⟩, ⟨.inl rfl, ⟨.inl rfl, ⟨.inl rfl, ⟨.inl rfl, ⟨.inl rfl, ⟨.inl rfl, ⟨.inl rfl, ⟨.inl rfl, ⟨.inl rfl, ⟨.inl rfl, ⟨.inl rfl, ⟨.inl rfl, ⟨.inl rfl, ⟨.inl rfl, ⟨.inl rfl, ⟨.inl rfl, ⟨.inl rfl, ⟨.inl rfl, ⟨.inl rfl, ⟨.inl rfl, ⟨.inl rfl, ⟨.inl rfl, ⟨.inl rfl, ⟨.inl rfl, ⟨.inl rfl, ⟨.inl rfl, ⟨.inl rfl, ⟨.inl rfl, ⟨.inl rfl, ⟨.inl rfl, ⟨.inl rfl, ⟨.inl rfl, ⟨.inl rfl, ⟨.inl rfl, ⟨.inr ⟨rfl, rfl⟩, ⟨.inr ⟨rfl, rfl⟩, ⟨.inr ⟨rfl, rfl⟩, ⟨.inl rfl, ⟨.inl rfl, ⟨.inl rfl, ⟨.inl rfl, ⟨.inl rfl, ⟨.inl rfl, ⟨.inl rfl, ⟨.inl rfl, ⟨.inl rfl, ⟨.inl rfl, ⟨.inl rfl, ⟨.inl rfl, ⟨.inl rfl, trivial⟩⟩⟩⟩⟩⟩⟩⟩⟩⟩⟩⟩⟩⟩⟩⟩⟩⟩⟩⟩⟩⟩⟩⟩⟩⟩⟩⟩⟩⟩⟩⟩⟩⟩⟩⟩⟩⟩⟩⟩⟩⟩⟩⟩⟩⟩⟩⟩⟩⟩⟩⟩⟩⟩⟩⟩⟩⟩⟩⟩⟩, rfl, rfl, rfl, ⟨_, (.cons_cons _ (.cons_cons _ .slnil)), (.swap _ _ _)⟩, rfl⟩⟩
          · have h := cond_f c14 h
            refine AWp.exit ?_
            obtain rfl := Option.some.inj h
            exact ⟨⟨.inl rfl, ⟨.inl rfl, ⟨.inl rfl, ⟨.inl rfl, ⟨.inl rfl, ⟨.inl rfl, ⟨.inl rfl, ⟨.inl rfl, ⟨.inl rfl, ⟨.inl rfl, ⟨.inr ⟨rfl, rfl⟩, ⟨.inl rfl, ⟨.inl rfl, ⟨.inl rfl, ⟨.inl rfl, ⟨.inl rfl, ⟨.inl rfl, ⟨.inl rfl, ⟨.inl rfl, ⟨.inl rfl, ⟨.inl rfl, ⟨.inl rfl, ⟨.inl rfl, ⟨.inl rfl, ⟨.inl rfl, ⟨.inl rfl, ⟨.inl rfl, ⟨.inl rfl, ⟨.inl rfl, ⟨.inl rfl, ⟨.inl rfl, ⟨.inl rfl, ⟨.inl rfl, ⟨.inl rfl, ⟨.inl rfl, ⟨.inl rfl, ⟨.inl rfl, ⟨.inl rfl, ⟨.inl rfl, ⟨.inl rfl, ⟨.inl rfl, ⟨.inl rfl, ⟨.inl rfl, ⟨.inl rfl, ⟨.inl rfl, ⟨.inl rfl, ⟨.inl rfl, ⟨.inl rfl, ⟨.inl rfl, ⟨.inl rfl, ⟨.inl rfl, ⟨.inl rfl, ⟨.inl rfl, ⟨.inl rfl, ⟨.inl rfl, ⟨.inl rfl, ⟨.inl rfl, ⟨.inl rfl, ⟨.inl rfl, ⟨.inl rfl, ⟨.inl rfl, trivial⟩⟩⟩⟩⟩⟩⟩⟩⟩⟩⟩⟩⟩⟩⟩⟩⟩⟩⟩⟩⟩⟩⟩⟩⟩⟩⟩⟩⟩⟩⟩⟩⟩⟩⟩⟩⟩⟩⟩⟩⟩⟩⟩⟩⟩⟩⟩⟩⟩⟩⟩⟩⟩⟩⟩⟩⟩⟩⟩⟩⟩, rfl, rfl, rfl, ⟨_, (.cons _ (.cons_cons _ .slnil)), (.refl _)⟩, rfl⟩
      · skip
        refine AWp.seqX [2, 3] (tg := [2, 60]) (H := []) (st' := ⟨sp [(2, .slice 5 (s8.map encTVar)), (3, .int .i64 0)] 0 61, [.obj (mapIs mkStr mkStr s1)], [], [⟨.slot 2, 26, 5⟩]⟩) (ob := (True ∧ (True ∧ (True ∧ True)))) (by kernel_rfl) ⟨trivial, ⟨trivial, ⟨trivial, trivial⟩⟩⟩ ?_
        refine AWp.ret ?_
        obtain rfl := Option.some.inj h
        exact ⟨[.slice 5 (s8.map encTVar), .int .i64 0], (True ∧ (True ∧ True)), by kernel_rfl, ⟨trivial, ⟨trivial, trivial⟩⟩, by kernel_rfl, ACalls.eq_of rfl rfl rfl rfl⟩
end Go.Proofs.Ytboofbgcdhjhnaa
