/- models -/
import Derived.Test.YtmcnemjnkiofdaaGreatDoorTy
namespace Go.Proofs.YtmcnemjnkiofdaaGreatDoor
open Go.RT
set_option linter.all false
set_option maxRecDepth 100000
def absurd78_c (F : Nat) : Ctr E := ⟨⟨78, [.one (.dat (.int .u64))], [], [], ⟨.one (.any), [], [], []⟩, none, []⟩, fun _ => none⟩
theorem absurd78_ok (F : Nat) : (absurd78_c F).Ok Tryz.prog := fun x y h => nomatch (show none = some y from h)
/- internal/strconv.small -/
def strconv_small (F : Nat)  (a0 : Int) : Option (List UInt8) :=
 cond (decide (a0 < 10))
 (rq ((decide (0 ≤ a0)) && ((decide (a0 ≤ w64 (a0 + 1))) && (decide (w64 (a0 + 1) ≤ (([48, 49, 50, 51, 52, 53, 54, 55, 56, 57, 97, 98, 99, 100, 101, 102, 103, 104, 105, 106, 107, 108, 109, 110, 111, 112, 113, 114, 115, 116, 117, 118, 119, 120, 121, 122] : List UInt8).length : Int))))) (some (sl ([48, 49, 50, 51, 52, 53, 54, 55, 56, 57, 97, 98, 99, 100, 101, 102, 103, 104, 105, 106, 107, 108, 109, 110, 111, 112, 113, 114, 115, 116, 117, 118, 119, 120, 121, 122] : List UInt8) a0 (w64 (a0 + 1)))))
 (rq ((decide (0 ≤ w64 (a0 * 2))) && ((decide (w64 (a0 * 2) ≤ w64 ((w64 (a0 * 2)) + 2))) && (decide (w64 ((w64 (a0 * 2)) + 2) ≤ (([48, 48, 48, 49, 48, 50, 48, 51, 48, 52, 48, 53, 48, 54, 48, 55, 48, 56, 48, 57, 49, 48, 49, 49, 49, 50, 49, 51, 49, 52, 49, 53, 49, 54, 49, 55, 49, 56, 49, 57, 50, 48, 50, 49, 50, 50, 50, 51, 50, 52, 50, 53, 50, 54, 50, 55, 50, 56, 50, 57, 51, 48, 51, 49, 51, 50, 51, 51, 51, 52, 51, 53, 51, 54, 51, 55, 51, 56, 51, 57, 52, 48, 52, 49, 52, 50, 52, 51, 52, 52, 52, 53, 52, 54, 52, 55, 52, 56, 52, 57, 53, 48, 53, 49, 53, 50, 53, 51, 53, 52, 53, 53, 53, 54, 53, 55, 53, 56, 53, 57, 54, 48, 54, 49, 54, 50, 54, 51, 54, 52, 54, 53, 54, 54, 54, 55, 54, 56, 54, 57, 55, 48, 55, 49, 55, 50, 55, 51, 55, 52, 55, 53, 55, 54, 55, 55, 55, 56, 55, 57, 56, 48, 56, 49, 56, 50, 56, 51, 56, 52, 56, 53, 56, 54, 56, 55, 56, 56, 56, 57, 57, 48, 57, 49, 57, 50, 57, 51, 57, 52, 57, 53, 57, 54, 57, 55, 57, 56, 57, 57] : List UInt8).length : Int))))) (some (sl ([48, 48, 48, 49, 48, 50, 48, 51, 48, 52, 48, 53, 48, 54, 48, 55, 48, 56, 48, 57, 49, 48, 49, 49, 49, 50, 49, 51, 49, 52, 49, 53, 49, 54, 49, 55, 49, 56, 49, 57, 50, 48, 50, 49, 50, 50, 50, 51, 50, 52, 50, 53, 50, 54, 50, 55, 50, 56, 50, 57, 51, 48, 51, 49, 51, 50, 51, 51, 51, 52, 51, 53, 51, 54, 51, 55, 51, 56, 51, 57, 52, 48, 52, 49, 52, 50, 52, 51, 52, 52, 52, 53, 52, 54, 52, 55, 52, 56, 52, 57, 53, 48, 53, 49, 53, 50, 53, 51, 53, 52, 53, 53, 53, 54, 53, 55, 53, 56, 53, 57, 54, 48, 54, 49, 54, 50, 54, 51, 54, 52, 54, 53, 54, 54, 54, 55, 54, 56, 54, 57, 55, 48, 55, 49, 55, 50, 55, 51, 55, 52, 55, 53, 55, 54, 55, 55, 55, 56, 55, 57, 56, 48, 56, 49, 56, 50, 56, 51, 56, 52, 56, 53, 56, 54, 56, 55, 56, 56, 56, 57, 57, 48, 57, 49, 57, 50, 57, 51, 57, 52, 57, 53, 57, 54, 57, 55, 57, 56, 57, 57] : List UInt8) (w64 (a0 * 2)) (w64 ((w64 (a0 * 2)) + 2)))))
def strconv_small_s : Shp := ⟨77, [.one (.dat (.int .i64))], [], [], ⟨.one (.dat .str), [], [], []⟩, none, []⟩
def strconv_small_p : Plan := .leaf
def strconv_small_c (F : Nat) : Ctr E := ⟨strconv_small_s, fun (x : Int) => strconv_small F x⟩
theorem strconv_small_ok (F : Nat) : (strconv_small_c F).Ok Tryz.prog := Ctr.ok_of (X := ⟨Tryz.prog, tyT, []⟩) (F := F) ⟨E_ok, okN, mixed⟩ (pl := strconv_small_p) Tryz.func77 (by kernel_rfl) (fun x => by kernel_rfl)
/- internal/strconv.isPowerOfTwo -/
def strconv_isPowerOfTwo (F : Nat)  (a0 : Int) : Option Bool :=
 some ((bAnd .i64 a0 (w64 (a0 - 1))) == 0)
def strconv_isPowerOfTwo_s : Shp := ⟨92, [.one (.dat (.int .i64))], [], [], ⟨.one (.dat .bool), [], [], []⟩, none, []⟩
def strconv_isPowerOfTwo_p : Plan := .leaf
def strconv_isPowerOfTwo_c (F : Nat) : Ctr E := ⟨strconv_isPowerOfTwo_s, fun (x : Int) => strconv_isPowerOfTwo F x⟩
theorem strconv_isPowerOfTwo_ok (F : Nat) : (strconv_isPowerOfTwo_c F).Ok Tryz.prog := Ctr.ok_of (X := ⟨Tryz.prog, tyT, []⟩) (F := F) ⟨E_ok, okN, mixed⟩ (pl := strconv_isPowerOfTwo_p) Tryz.func92 (by kernel_rfl) (fun x => by kernel_rfl)
/- math/bits.TrailingZeros64 -/
def bits_TrailingZeros64 (F : Nat)  (a0 : Int) : Option Int :=
 cond (a0 == 0)
 (some 64)
 (rq ((decide (0 ≤ bShr .u64 (IntKind.wrap .u64 ((bAnd .u64 a0 (IntKind.wrap .u64 (0 - a0))) * 285870213051353865)) 58)) && ((decide (bShr .u64 (IntKind.wrap .u64 ((bAnd .u64 a0 (IntKind.wrap .u64 (0 - a0))) * 285870213051353865)) 58 < 64)) && (decide (bShr .u64 (IntKind.wrap .u64 ((bAnd .u64 a0 (IntKind.wrap .u64 (0 - a0))) * 285870213051353865)) 58 < (tab3.length : Int))))) (some (w64 (tab3.getD (Int.toNat (bShr .u64 (IntKind.wrap .u64 ((bAnd .u64 a0 (IntKind.wrap .u64 (0 - a0))) * 285870213051353865)) 58)) 0))))
def bits_TrailingZeros64_s : Shp := ⟨105, [.one (.dat (.int .u64))], [], [], ⟨.one (.dat (.int .i64)), [], [], []⟩, none, []⟩
def bits_TrailingZeros64_p : Plan := .leaf
def bits_TrailingZeros64_c (F : Nat) : Ctr E := ⟨bits_TrailingZeros64_s, fun (x : Int) => bits_TrailingZeros64 F x⟩
theorem bits_TrailingZeros64_ok (F : Nat) : (bits_TrailingZeros64_c F).Ok Tryz.prog := Ctr.ok_of (X := ⟨Tryz.prog, tyT, []⟩) (F := F) ⟨E_ok, okN, mixed⟩ (pl := bits_TrailingZeros64_p) Tryz.func105 (by kernel_rfl) (fun x => by kernel_rfl)
/- math/bits.TrailingZeros -/
def bits_TrailingZeros (F : Nat)  (a0 : Int) : Option Int :=
 (bits_TrailingZeros64 F a0).bind fun x1 =>
 some x1
def bits_TrailingZeros_s : Shp := ⟨93, [.one (.dat (.int .u64))], [], [], ⟨.one (.dat (.int .i64)), [], [], []⟩, none, []⟩
def bits_TrailingZeros_p : Plan := .leaf
def bits_TrailingZeros_c (F : Nat) : Ctr E := ⟨bits_TrailingZeros_s, fun (x : Int) => bits_TrailingZeros F x⟩
theorem bits_TrailingZeros_ok (F : Nat) : (bits_TrailingZeros_c F).Ok Tryz.prog := Ctr.ok_of (X := ⟨Tryz.prog, tyT, [bits_TrailingZeros64_c F]⟩) (F := F) ⟨E_ok, okC (bits_TrailingZeros64_ok F) (okN), mixed⟩ (pl := bits_TrailingZeros_p) Tryz.func93 (by kernel_rfl) (fun x => by kernel_rfl)
/- internal/strconv.formatBits -/
def strconv_formatBits (F : Nat)  (a0 : Int) (a1 : Int) : Option (((List Int) × (List UInt8)) ⊕ (List UInt8)) :=
 (cond (decide (a1 < 2))
 (some true)
 (some (a1 == 10)) : Option Bool).bind fun x1 =>
 (cond x1
 (some true)
 (some (decide (36 < a1))) : Option Bool).bind fun x2 =>
 cond x2
 (some (.inr ([115, 116, 114, 99, 111, 110, 118, 58, 32, 105, 108, 108, 101, 103, 97, 108, 32, 65, 112, 112, 101, 110, 100, 73, 110, 116, 47, 70, 111, 114, 109, 97, 116, 73, 110, 116, 32, 98, 97, 115, 101] : List UInt8)))
 (((strconv_isPowerOfTwo F a1).bind fun x4 =>
 cond x4
 ((bits_TrailingZeros F (IntKind.wrap .u64 a1)).bind fun x5 =>
 loopF (σ := Int × Int × (List Int)) (R := Int × (List Int)) (fun rc7 x6 =>
 cond (decide (IntKind.wrap .u64 a1 ≤ x6.1))
 (rq ((decide (0 ≤ bAnd .u64 x6.1 (IntKind.wrap .u64 ((IntKind.wrap .u64 a1) - 1)))) && (decide (bAnd .u64 x6.1 (IntKind.wrap .u64 ((IntKind.wrap .u64 a1) - 1)) < (([48, 49, 50, 51, 52, 53, 54, 55, 56, 57, 97, 98, 99, 100, 101, 102, 103, 104, 105, 106, 107, 108, 109, 110, 111, 112, 113, 114, 115, 116, 117, 118, 119, 120, 121, 122] : List UInt8).length : Int)))) (rq ((decide (0 ≤ w64 (x6.2.1 - 1))) && ((decide (w64 (x6.2.1 - 1) < 65)) && (decide (w64 (x6.2.1 - 1) < (x6.2.2.length : Int))))) (rq (decide (0 ≤ IntKind.wrap .u64 x5)) (rc7 (bShr .u64 x6.1 (IntKind.wrap .u64 x5), w64 (x6.2.1 - 1), x6.2.2.set (Int.toNat (w64 (x6.2.1 - 1))) ((([48, 49, 50, 51, 52, 53, 54, 55, 56, 57, 97, 98, 99, 100, 101, 102, 103, 104, 105, 106, 107, 108, 109, 110, 111, 112, 113, 114, 115, 116, 117, 118, 119, 120, 121, 122] : List UInt8).getD (Int.toNat (bAnd .u64 x6.1 (IntKind.wrap .u64 ((IntKind.wrap .u64 a1) - 1)))) 0).toNat : Int))))))
 (rq ((decide (0 ≤ x6.1)) && (decide (x6.1 < (([48, 49, 50, 51, 52, 53, 54, 55, 56, 57, 97, 98, 99, 100, 101, 102, 103, 104, 105, 106, 107, 108, 109, 110, 111, 112, 113, 114, 115, 116, 117, 118, 119, 120, 121, 122] : List UInt8).length : Int)))) (rq ((decide (0 ≤ w64 (x6.2.1 - 1))) && ((decide (w64 (x6.2.1 - 1) < 65)) && (decide (w64 (x6.2.1 - 1) < (x6.2.2.length : Int))))) (some (w64 (x6.2.1 - 1), x6.2.2.set (Int.toNat (w64 (x6.2.1 - 1))) ((([48, 49, 50, 51, 52, 53, 54, 55, 56, 57, 97, 98, 99, 100, 101, 102, 103, 104, 105, 106, 107, 108, 109, 110, 111, 112, 113, 114, 115, 116, 117, 118, 119, 120, 121, 122] : List UInt8).getD (Int.toNat x6.1) 0).toNat : Int)))))) F (a0, 65, List.replicate 65 0))
 (loopF (σ := Int × Int × (List Int)) (R := Int × (List Int)) (fun rc9 x8 =>
 cond (decide (IntKind.wrap .u64 a1 ≤ x8.1))
 (rq (!((IntKind.wrap .u64 a1) == 0)) (rq ((decide (0 ≤ IntKind.wrap .u64 (x8.1 - (IntKind.wrap .u64 ((IntKind.wrap .u64 (Int.tdiv x8.1 (IntKind.wrap .u64 a1))) * (IntKind.wrap .u64 a1)))))) && (decide (IntKind.wrap .u64 (x8.1 - (IntKind.wrap .u64 ((IntKind.wrap .u64 (Int.tdiv x8.1 (IntKind.wrap .u64 a1))) * (IntKind.wrap .u64 a1)))) < (([48, 49, 50, 51, 52, 53, 54, 55, 56, 57, 97, 98, 99, 100, 101, 102, 103, 104, 105, 106, 107, 108, 109, 110, 111, 112, 113, 114, 115, 116, 117, 118, 119, 120, 121, 122] : List UInt8).length : Int)))) (rq ((decide (0 ≤ w64 (x8.2.1 - 1))) && ((decide (w64 (x8.2.1 - 1) < 65)) && (decide (w64 (x8.2.1 - 1) < (x8.2.2.length : Int))))) (rc9 (IntKind.wrap .u64 (Int.tdiv x8.1 (IntKind.wrap .u64 a1)), w64 (x8.2.1 - 1), x8.2.2.set (Int.toNat (w64 (x8.2.1 - 1))) ((([48, 49, 50, 51, 52, 53, 54, 55, 56, 57, 97, 98, 99, 100, 101, 102, 103, 104, 105, 106, 107, 108, 109, 110, 111, 112, 113, 114, 115, 116, 117, 118, 119, 120, 121, 122] : List UInt8).getD (Int.toNat (IntKind.wrap .u64 (x8.1 - (IntKind.wrap .u64 ((IntKind.wrap .u64 (Int.tdiv x8.1 (IntKind.wrap .u64 a1))) * (IntKind.wrap .u64 a1)))))) 0).toNat : Int))))))
 (rq ((decide (0 ≤ x8.1)) && (decide (x8.1 < (([48, 49, 50, 51, 52, 53, 54, 55, 56, 57, 97, 98, 99, 100, 101, 102, 103, 104, 105, 106, 107, 108, 109, 110, 111, 112, 113, 114, 115, 116, 117, 118, 119, 120, 121, 122] : List UInt8).length : Int)))) (rq ((decide (0 ≤ w64 (x8.2.1 - 1))) && ((decide (w64 (x8.2.1 - 1) < 65)) && (decide (w64 (x8.2.1 - 1) < (x8.2.2.length : Int))))) (some (w64 (x8.2.1 - 1), x8.2.2.set (Int.toNat (w64 (x8.2.1 - 1))) ((([48, 49, 50, 51, 52, 53, 54, 55, 56, 57, 97, 98, 99, 100, 101, 102, 103, 104, 105, 106, 107, 108, 109, 110, 111, 112, 113, 114, 115, 116, 117, 118, 119, 120, 121, 122] : List UInt8).getD (Int.toNat x8.1) 0).toNat : Int)))))) F (a0, 65, List.replicate 65 0)) : Option (Int × (List Int))).bind fun x3 =>
 rq ((decide (0 ≤ x3.1)) && ((decide (x3.1 ≤ 65)) && (decide (65 ≤ (x3.2.length : Int))))) (some (.inl (([] : List Int), toBytes ((x3.2.drop (Int.toNat x3.1)).take (65 - Int.toNat x3.1))))))
def strconv_formatBits_s : Shp := ⟨80, [.one (.nil .slice), .one (.dat (.int .u64)), .one (.dat (.int .i64)), .one (.lb false), .one (.lb false)], [], [], ⟨.tup [.dat (.lst (.int .u8)), .dat .str], [], [], []⟩, some ⟨.one (.iface 9 .str), [], [], []⟩, []⟩
def strconv_formatBits_p : Plan := .seq [] none (.leaf) (.seq [.slot 10 5 (.int .u8)] none (.seq [] none (.region [(6, ⟨[(24, .one (.dat .bool))], [], [none], []⟩, false), (4, ⟨[(28, .one (.dat .bool))], [], [none], []⟩, false)]) (.leaf)) (.seq [] none (.leaf) (.seq [] none (.leaf) (.seq [] none (.leaf) (.seq [] (some (⟨[(13, .one (.dat (.int .i64)))], [], [none, none], [(1, (.int .u8))]⟩, false)) (.seq [] none (.leaf) (.cond (.seq [] none (.leaf) (.seq [] none (.leaf) (.seq [] none (.leaf) (.seq [] none (.loop [] ⟨[(1, .one (.dat (.int .u64))), (13, .one (.dat (.int .i64)))], [], [none, none], [(1, (.int .u8))]⟩ (.leaf)) (.leaf))))) (.seq [] none (.leaf) (.seq [] none (.loop [] ⟨[(1, .one (.dat (.int .u64))), (13, .one (.dat (.int .i64)))], [], [none, none], [(1, (.int .u8))]⟩ (.leaf)) (.leaf))))) (.leaf))))))
def strconv_formatBits_c (F : Nat) : Ctr E := ⟨strconv_formatBits_s, fun (x : Int × Int) => strconv_formatBits F x.1 x.2⟩
theorem strconv_formatBits_ok (F : Nat) : (strconv_formatBits_c F).Ok Tryz.prog := Ctr.ok_of (X := ⟨Tryz.prog, tyT, [strconv_isPowerOfTwo_c F, bits_TrailingZeros_c F]⟩) (F := F) ⟨E_ok, okC (strconv_isPowerOfTwo_ok F) (okC (bits_TrailingZeros_ok F) (okN)), mixed⟩ (pl := strconv_formatBits_p) Tryz.func80 (by kernel_rfl) (fun x => by kernel_rfl)
/- internal/strconv.FormatUint -/
def strconv_FormatUint_1 (F : Nat)  (a0 : Int) (a1 : Int) : Option ((List UInt8) ⊕ (List UInt8)) :=
 cond (a1 == 10)
 (cond (decide (a0 < 100))
 ((strconv_small F (w64 a0)).bind fun x1 =>
 some (.inl x1))
 (none))
 ((strconv_formatBits F a0 a1).bind (sm (fun x2 =>
 some (.inl x2.2)) (fun x3 => some (.inr x3))))
def strconv_FormatUint_1_s : Shp := ⟨67, [.one (.dat (.int .u64)), .one (.dat (.int .i64))], [], [], ⟨.one (.dat .str), [], [], []⟩, some ⟨.one (.iface 9 .str), [], [], []⟩, []⟩
def strconv_FormatUint_1_p : Plan := .leaf
def strconv_FormatUint_1_c (F : Nat) : Ctr E := ⟨strconv_FormatUint_1_s, fun (x : Int × Int) => strconv_FormatUint_1 F x.1 x.2⟩
theorem strconv_FormatUint_1_ok (F : Nat) : (strconv_FormatUint_1_c F).Ok Tryz.prog := Ctr.ok_of (X := ⟨Tryz.prog, tyT, [strconv_small_c F, absurd78_c F, strconv_formatBits_c F]⟩) (F := F) ⟨E_ok, okC (strconv_small_ok F) (okC (absurd78_ok F) (okC (strconv_formatBits_ok F) (okN))), mixed⟩ (pl := strconv_FormatUint_1_p) Tryz.func67 (by kernel_rfl) (fun x => by kernel_rfl)
/- strconv.FormatUint -/
def strconv_FormatUint (F : Nat)  (a0 : Int) (a1 : Int) : Option ((List UInt8) ⊕ (List UInt8)) :=
 (strconv_FormatUint_1 F a0 a1).bind (sm (fun x1 =>
 some (.inl x1)) (fun x2 => some (.inr x2)))
def strconv_FormatUint_s : Shp := ⟨56, [.one (.dat (.int .u64)), .one (.dat (.int .i64))], [], [], ⟨.one (.dat .str), [], [], []⟩, some ⟨.one (.iface 9 .str), [], [], []⟩, []⟩
def strconv_FormatUint_p : Plan := .leaf
def strconv_FormatUint_c (F : Nat) : Ctr E := ⟨strconv_FormatUint_s, fun (x : Int × Int) => strconv_FormatUint F x.1 x.2⟩
theorem strconv_FormatUint_ok (F : Nat) : (strconv_FormatUint_c F).Ok Tryz.prog := Ctr.ok_of (X := ⟨Tryz.prog, tyT, [strconv_FormatUint_1_c F]⟩) (F := F) ⟨E_ok, okC (strconv_FormatUint_1_ok F) (okN), mixed⟩ (pl := strconv_FormatUint_p) Tryz.func56 (by kernel_rfl) (fun x => by kernel_rfl)
end Go.Proofs.YtmcnemjnkiofdaaGreatDoor
