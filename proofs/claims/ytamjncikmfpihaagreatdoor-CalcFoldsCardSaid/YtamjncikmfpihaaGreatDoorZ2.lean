/- models -/
import Derived.Test.YtamjncikmfpihaaGreatDoorTy
namespace Go.Proofs.YtamjncikmfpihaaGreatDoor
open Go.RT
set_option linter.all false
set_option maxRecDepth 100000
def indexByteString := ibF
def indexByteString_c (F : Nat) : Ctr E := ibC E 142 F
theorem indexByteString_ok (F : Nat) : (indexByteString_c F).Ok Tryz.prog := ib_ok (fun args w => run_callFunc_extern Tryz.func142 (by kernel_rfl) (by kernel_rfl) (by kernel_rfl) (e := Extern.BytealgIndexByte.indexByte) (by kernel_rfl) args w) F
def strconvItoa_c (F : Nat) : Ctr E := itoaC E 84 F
theorem strconvItoa_ok (F : Nat) : (strconvItoa_c F).Ok Tryz.prog := itoa_ok (entersOf Tryz.func84 (by kernel_rfl) (by kernel_rfl)) (fun w G hP => tabIs_of_pins (g := 1) hP (by kernel_rfl) rfl) (fun n h0 h1 w ht => Go.Proofs.Any.strconv_Itoa Tryz.itoaL n h0 h1 w ht) F
def slicesSorted_c (F : Nat) : Ctr E := skC E 34 55 61 .str F
theorem slicesSorted_ok (F : Nat) : (slicesSorted_c F).Ok Tryz.prog := sk_ok (entersOf Tryz.func34 (by kernel_rfl) (by kernel_rfl)) sortedAt (by kernel_rfl) F
/- jobshell/arith.space -/
def arith_space (F : Nat)  (a0 : Int) : Option Bool :=
 (cond (a0 == 9)
 (some true)
 (some (a0 == 10)) : Option Bool).bind fun x1 =>
 (cond x1
 (some true)
 (some (a0 == 32)) : Option Bool).bind fun x2 =>
 some x2
def arith_space_s : Shp := ⟨94, [.one (.dat (.int .u8))], [], [], ⟨.one (.dat .bool), [], []⟩, none⟩
def arith_space_p : Plan := .seq [] none (.leaf) (.seq [] none (.region [(6, ⟨[(8, .one (.dat .bool))], [], []⟩, false), (4, ⟨[(12, .one (.dat .bool))], [], []⟩, false)]) (.leaf))
def arith_space_c (F : Nat) : Ctr E := ⟨arith_space_s, fun (x : Int) => arith_space F x⟩
theorem arith_space_ok (F : Nat) : (arith_space_c F).Ok Tryz.prog := Ctr.ok_of (X := ⟨Tryz.prog, tyT, []⟩) (F := F) ⟨E_ok, okN, mixed⟩ (pl := arith_space_p) Tryz.func94 (by kernel_rfl) (fun x => by kernel_rfl)
/- jobshell/arith.follows -/
def arith_follows (F : Nat)  (a0 : Int) : Option Bool :=
 (cond (a0 == 95)
 (some true)
 (cond (decide (48 ≤ a0))
 (some (decide (a0 ≤ 57)))
 (some false)) : Option Bool).bind fun x1 =>
 (cond x1
 (some true)
 (cond (decide (65 ≤ a0))
 (some (decide (a0 ≤ 90)))
 (some false)) : Option Bool).bind fun x2 =>
 (cond x2
 (some true)
 (cond (decide (97 ≤ a0))
 (some (decide (a0 ≤ 122)))
 (some false)) : Option Bool).bind fun x3 =>
 some x3
def arith_follows_s : Shp := ⟨95, [.one (.dat (.int .u8))], [], [], ⟨.one (.dat .bool), [], []⟩, none⟩
def arith_follows_p : Plan := .seq [] none (.leaf) (.seq [] none (.region [(10, ⟨[(12, .one (.dat .bool))], [], []⟩, false), (8, ⟨[(20, .one (.dat .bool))], [], []⟩, false), (8, ⟨[(28, .one (.dat .bool))], [], []⟩, false)]) (.leaf))
def arith_follows_c (F : Nat) : Ctr E := ⟨arith_follows_s, fun (x : Int) => arith_follows F x⟩
theorem arith_follows_ok (F : Nat) : (arith_follows_c F).Ok Tryz.prog := Ctr.ok_of (X := ⟨Tryz.prog, tyT, []⟩) (F := F) ⟨E_ok, okN, mixed⟩ (pl := arith_follows_p) Tryz.func95 (by kernel_rfl) (fun x => by kernel_rfl)
/- internal/stringslite.HasPrefix -/
def stringslite_HasPrefix (F : Nat)  (a0 : List UInt8) (a1 : List UInt8) : Option Bool :=
 (cond (decide ((a1.length : Int) ≤ (a0.length : Int)))
 (rq ((decide (0 ≤ (a1.length : Int))) && (decide ((a1.length : Int) ≤ (a0.length : Int)))) (some ((sl a0 0 (a1.length : Int)) == a1)))
 (some false) : Option Bool).bind fun x1 =>
 some x1
def stringslite_HasPrefix_s : Shp := ⟨78, [.one (.dat .str), .one (.dat .str)], [], [], ⟨.one (.dat .bool), [], []⟩, none⟩
def stringslite_HasPrefix_p : Plan := .seq [] none (.leaf) (.seq [] none (.region [(13, ⟨[(17, .one (.dat .bool))], [], []⟩, false)]) (.leaf))
def stringslite_HasPrefix_c (F : Nat) : Ctr E := ⟨stringslite_HasPrefix_s, fun (x : (List UInt8) × (List UInt8)) => stringslite_HasPrefix F x.1 x.2⟩
theorem stringslite_HasPrefix_ok (F : Nat) : (stringslite_HasPrefix_c F).Ok Tryz.prog := Ctr.ok_of (X := ⟨Tryz.prog, tyT, []⟩) (F := F) ⟨E_ok, okN, mixed⟩ (pl := stringslite_HasPrefix_p) Tryz.func78 (by kernel_rfl) (fun x => by kernel_rfl)
/- strings.HasPrefix -/
def strings_HasPrefix (F : Nat)  (a0 : List UInt8) (a1 : List UInt8) : Option Bool :=
 (stringslite_HasPrefix F a0 a1).bind fun x1 =>
 some x1
def strings_HasPrefix_s : Shp := ⟨45, [.one (.dat .str), .one (.dat .str)], [], [], ⟨.one (.dat .bool), [], []⟩, none⟩
def strings_HasPrefix_p : Plan := .leaf
def strings_HasPrefix_c (F : Nat) : Ctr E := ⟨strings_HasPrefix_s, fun (x : (List UInt8) × (List UInt8)) => strings_HasPrefix F x.1 x.2⟩
theorem strings_HasPrefix_ok (F : Nat) : (strings_HasPrefix_c F).Ok Tryz.prog := Ctr.ok_of (X := ⟨Tryz.prog, tyT, [stringslite_HasPrefix_c F]⟩) (F := F) ⟨E_ok, okC (stringslite_HasPrefix_ok F) (okN), mixed⟩ (pl := strings_HasPrefix_p) Tryz.func45 (by kernel_rfl) (fun x => by kernel_rfl)
/- internal/stringslite.IndexByte -/
def stringslite_IndexByte (F : Nat)  (a0 : List UInt8) (a1 : Int) : Option Int :=
 (indexByteString F a0 a1).bind fun x1 =>
 some x1
def stringslite_IndexByte_s : Shp := ⟨125, [.one (.dat .str), .one (.dat (.int .u8))], [], [], ⟨.one (.dat (.int .i64)), [], []⟩, none⟩
def stringslite_IndexByte_p : Plan := .leaf
def stringslite_IndexByte_c (F : Nat) : Ctr E := ⟨stringslite_IndexByte_s, fun (x : (List UInt8) × Int) => stringslite_IndexByte F x.1 x.2⟩
theorem stringslite_IndexByte_ok (F : Nat) : (stringslite_IndexByte_c F).Ok Tryz.prog := Ctr.ok_of (X := ⟨Tryz.prog, tyT, [indexByteString_c F]⟩) (F := F) ⟨E_ok, okC (indexByteString_ok F) (okN), mixed⟩ (pl := stringslite_IndexByte_p) Tryz.func125 (by kernel_rfl) (fun x => by kernel_rfl)
/- strings.IndexByte -/
def strings_IndexByte (F : Nat)  (a0 : List UInt8) (a1 : Int) : Option Int :=
 (stringslite_IndexByte F a0 a1).bind fun x1 =>
 some x1
def strings_IndexByte_s : Shp := ⟨96, [.one (.dat .str), .one (.dat (.int .u8))], [], [], ⟨.one (.dat (.int .i64)), [], []⟩, none⟩
def strings_IndexByte_p : Plan := .leaf
def strings_IndexByte_c (F : Nat) : Ctr E := ⟨strings_IndexByte_s, fun (x : (List UInt8) × Int) => strings_IndexByte F x.1 x.2⟩
theorem strings_IndexByte_ok (F : Nat) : (strings_IndexByte_c F).Ok Tryz.prog := Ctr.ok_of (X := ⟨Tryz.prog, tyT, [stringslite_IndexByte_c F]⟩) (F := F) ⟨E_ok, okC (stringslite_IndexByte_ok F) (okN), mixed⟩ (pl := strings_IndexByte_p) Tryz.func96 (by kernel_rfl) (fun x => by kernel_rfl)
/- jobshell/arith.scan -/
def arith_scan (F : Nat)  (a0 : List UInt8) (a1 : Int) : Option Ttoken :=
 loopF (σ := Int) (R := Ttoken) (fun rc2 x1 =>
 (cond (decide (x1 < (a0.length : Int)))
 (rq ((decide (0 ≤ x1)) && (decide (x1 < (a0.length : Int)))) ((arith_space F ((a0.getD (Int.toNat x1) 0).toNat : Int)).bind fun x4 =>
 some x4))
 (some false) : Option Bool).bind fun x3 =>
 cond x3
 (rc2 (w64 (x1 + 1)))
 (cond (x1 == (a0.length : Int))
 (some (Ttoken.mk 0 x1 []))
 (rq ((decide (0 ≤ x1)) && (decide (x1 < (a0.length : Int)))) ((arith_follows F ((a0.getD (Int.toNat x1) 0).toNat : Int)).bind fun x5 =>
 cond x5
 (loopF (σ := Int) (R := Ttoken) (fun rc7 x6 =>
 (cond (decide (x6 < (a0.length : Int)))
 (rq ((decide (0 ≤ x6)) && (decide (x6 < (a0.length : Int)))) ((arith_follows F ((a0.getD (Int.toNat x6) 0).toNat : Int)).bind fun x9 =>
 some x9))
 (some false) : Option Bool).bind fun x8 =>
 cond x8
 (rc7 (w64 (x6 + 1)))
 ((rq ((decide (0 ≤ x1)) && (decide (x1 < (a0.length : Int)))) (cond (decide (48 ≤ ((a0.getD (Int.toNat x1) 0).toNat : Int)))
 (rq ((decide (0 ≤ x1)) && (decide (x1 < (a0.length : Int)))) (some (decide (((a0.getD (Int.toNat x1) 0).toNat : Int) ≤ 57))))
 (some false)) : Option Bool).bind fun x10 =>
 cond x10
 (rq ((decide (0 ≤ x1)) && ((decide (x1 ≤ x6)) && (decide (x6 ≤ (a0.length : Int))))) (some (Ttoken.mk 1 x1 (sl a0 x1 x6))))
 (rq ((decide (0 ≤ x1)) && ((decide (x1 ≤ x6)) && (decide (x6 ≤ (a0.length : Int))))) (some (Ttoken.mk 2 x1 (sl a0 x1 x6)))))) F (w64 (x1 + 1)))
 (loopF (σ := Int) (R := Ttoken) (fun rc12 x11 =>
 cond (decide (x11 < (([([60, 60, 61] : List UInt8), ([62, 62, 61] : List UInt8), ([60, 60] : List UInt8), ([62, 62] : List UInt8), ([60, 61] : List UInt8), ([62, 61] : List UInt8), ([61, 61] : List UInt8), ([33, 61] : List UInt8), ([38, 38] : List UInt8), ([124, 124] : List UInt8), ([43, 61] : List UInt8), ([45, 61] : List UInt8), ([42, 61] : List UInt8), ([47, 61] : List UInt8), ([37, 61] : List UInt8), ([38, 61] : List UInt8), ([94, 61] : List UInt8), ([124, 61] : List UInt8)] : List (List UInt8)).length : Int)))
 (rq ((decide (0 ≤ x11)) && (decide (x11 < (([([60, 60, 61] : List UInt8), ([62, 62, 61] : List UInt8), ([60, 60] : List UInt8), ([62, 62] : List UInt8), ([60, 61] : List UInt8), ([62, 61] : List UInt8), ([61, 61] : List UInt8), ([33, 61] : List UInt8), ([38, 38] : List UInt8), ([124, 124] : List UInt8), ([43, 61] : List UInt8), ([45, 61] : List UInt8), ([42, 61] : List UInt8), ([47, 61] : List UInt8), ([37, 61] : List UInt8), ([38, 61] : List UInt8), ([94, 61] : List UInt8), ([124, 61] : List UInt8)] : List (List UInt8)).length : Int)))) (rq ((decide (0 ≤ x1)) && ((decide (x1 ≤ (a0.length : Int))) && (decide ((a0.length : Int) ≤ (a0.length : Int))))) ((strings_HasPrefix F (sl a0 x1 (a0.length : Int)) (([([60, 60, 61] : List UInt8), ([62, 62, 61] : List UInt8), ([60, 60] : List UInt8), ([62, 62] : List UInt8), ([60, 61] : List UInt8), ([62, 61] : List UInt8), ([61, 61] : List UInt8), ([33, 61] : List UInt8), ([38, 38] : List UInt8), ([124, 124] : List UInt8), ([43, 61] : List UInt8), ([45, 61] : List UInt8), ([42, 61] : List UInt8), ([47, 61] : List UInt8), ([37, 61] : List UInt8), ([38, 61] : List UInt8), ([94, 61] : List UInt8), ([124, 61] : List UInt8)] : List (List UInt8)).getD (Int.toNat x11) [])).bind fun x13 =>
 cond x13
 (some (Ttoken.mk 3 x1 (([([60, 60, 61] : List UInt8), ([62, 62, 61] : List UInt8), ([60, 60] : List UInt8), ([62, 62] : List UInt8), ([60, 61] : List UInt8), ([62, 61] : List UInt8), ([61, 61] : List UInt8), ([33, 61] : List UInt8), ([38, 38] : List UInt8), ([124, 124] : List UInt8), ([43, 61] : List UInt8), ([45, 61] : List UInt8), ([42, 61] : List UInt8), ([47, 61] : List UInt8), ([37, 61] : List UInt8), ([38, 61] : List UInt8), ([94, 61] : List UInt8), ([124, 61] : List UInt8)] : List (List UInt8)).getD (Int.toNat x11) [])))
 (rc12 (w64 (x11 + 1))))))
 (rq ((decide (0 ≤ x1)) && (decide (x1 < (a0.length : Int)))) ((strings_IndexByte F ([61, 63, 58, 124, 94, 38, 60, 62, 43, 45, 42, 47, 37, 33, 126, 40, 41] : List UInt8) ((a0.getD (Int.toNat x1) 0).toNat : Int)).bind fun x14 =>
 cond (decide (0 ≤ x14))
 (rq ((decide (0 ≤ x1)) && ((decide (x1 ≤ w64 (x1 + 1))) && (decide (w64 (x1 + 1) ≤ (a0.length : Int))))) (some (Ttoken.mk 3 x1 (sl a0 x1 (w64 (x1 + 1))))))
 (rq ((decide (0 ≤ x1)) && ((decide (x1 ≤ w64 (x1 + 1))) && (decide (w64 (x1 + 1) ≤ (a0.length : Int))))) (some (Ttoken.mk 4 x1 (sl a0 x1 (w64 (x1 + 1))))))))) F 0))))) F a1
def arith_scan_s : Shp := ⟨65, [.one (.dat .str), .one (.dat (.int .i64))], [], [], ⟨.one (.dat (.ext 3)), [], []⟩, none⟩
def arith_scan_p : Plan := .seq [] none (.leaf) (.seq [] none (.loop [] ⟨[(1, .one (.dat (.int .i64)))], [none], []⟩ (.seq [] none (.seq [] none (.region [(10, ⟨[(18, .one (.dat .bool))], [none], []⟩, false)]) (.leaf)) (.leaf))) (.seq [] none (.leaf) (.seq [] none (.seq [] none (.leaf) (.cond (.seq [] none (.leaf) (.seq [] none (.loop [] ⟨[(5, .one (.dat (.int .i64)))], [none], []⟩ (.seq [] none (.seq [] none (.region [(10, ⟨[(42, .one (.dat .bool))], [none], []⟩, false)]) (.leaf)) (.leaf))) (.seq [] none (.seq [] none (.region [(10, ⟨[(54, .one (.dat .bool))], [none], []⟩, false)]) (.leaf)) (.leaf)))) (.leaf))) (.seq [] none (.leaf) (.seq [] none (.seq [] none (.leaf) (.loop [] ⟨[(70, .one (.dat (.int .i64)))], [none], [none]⟩ (.leaf))) (.leaf))))))
def arith_scan_c (F : Nat) : Ctr E := ⟨arith_scan_s, fun (x : (List UInt8) × Int) => arith_scan F x.1 x.2⟩
theorem arith_scan_ok (F : Nat) : (arith_scan_c F).Ok Tryz.prog := Ctr.ok_of (X := ⟨Tryz.prog, tyT, [arith_space_c F, arith_follows_c F, strings_HasPrefix_c F, strings_IndexByte_c F]⟩) (F := F) ⟨E_ok, okC (arith_space_ok F) (okC (arith_follows_ok F) (okC (strings_HasPrefix_ok F) (okC (strings_IndexByte_ok F) (okN)))), mixed⟩ (pl := arith_scan_p) Tryz.func65 (by kernel_rfl) (fun x => by kernel_rfl)
/- (*jobshell/arith.parser).sees -/
def arith_parser_sees (F : Nat)  (a0 : List UInt8) (a1 : List UInt8) (a2 : Int) (a3 : Int) (a4 : List UInt8) : Option Bool :=
 (cond (a2 == 3)
 (some (a4 == a0))
 (some false) : Option Bool).bind fun x1 =>
 some x1
def arith_parser_sees_s : Shp := ⟨127, [.one (.ptr 0 0), .one (.dat .str)], [.cells 99 [.dat .str, .dat (.int .i64), .dat (.int .i64), .dat .str]], [], ⟨.one (.dat .bool), [none], []⟩, none⟩
def arith_parser_sees_p : Plan := .seq [] none (.leaf) (.seq [] none (.region [(15, ⟨[(19, .one (.dat .bool))], [none], []⟩, false)]) (.leaf))
def arith_parser_sees_c (F : Nat) : Ctr E := ⟨arith_parser_sees_s, fun (x : (List UInt8) × (List UInt8) × Int × Int × (List UInt8)) => arith_parser_sees F x.1 x.2.1 x.2.2.1 x.2.2.2.1 x.2.2.2.2⟩
theorem arith_parser_sees_ok (F : Nat) : (arith_parser_sees_c F).Ok Tryz.prog := Ctr.ok_of (X := ⟨Tryz.prog, tyT, []⟩) (F := F) ⟨E_ok, okN, mixed⟩ (pl := arith_parser_sees_p) Tryz.func127 (by kernel_rfl) (fun x => by kernel_rfl)
/- jobshell/arith.lower -/
def arith_lower (F : Nat)  (a0 : Int) : Option Int :=
 (cond (decide (65 ≤ a0))
 (some (decide (a0 ≤ 90)))
 (some false) : Option Bool).bind fun x1 =>
 cond x1
 (some 32)
 (some 0)
def arith_lower_s : Shp := ⟨165, [.one (.dat (.int .u8))], [], [], ⟨.one (.dat (.int .u8)), [], []⟩, none⟩
def arith_lower_p : Plan := .seq [] none (.leaf) (.seq [] none (.seq [] none (.region [(6, ⟨[(8, .one (.dat .bool))], [], []⟩, false)]) (.leaf)) (.leaf))
def arith_lower_c (F : Nat) : Ctr E := ⟨arith_lower_s, fun (x : Int) => arith_lower F x⟩
theorem arith_lower_ok (F : Nat) : (arith_lower_c F).Ok Tryz.prog := Ctr.ok_of (X := ⟨Tryz.prog, tyT, []⟩) (F := F) ⟨E_ok, okN, mixed⟩ (pl := arith_lower_p) Tryz.func165 (by kernel_rfl) (fun x => by kernel_rfl)
/- jobshell/arith.value -/
def arith_value (F : Nat)  (a0 : List UInt8) : Option (Int × Int) :=
 (((strings_HasPrefix F a0 ([48, 120] : List UInt8)).bind fun x3 =>
 cond x3
 (some true)
 ((strings_HasPrefix F a0 ([48, 88] : List UInt8)).bind fun x4 =>
 some x4) : Option Bool).bind fun x2 =>
 cond x2
 (rq ((decide (2 ≤ (a0.length : Int))) && (decide ((a0.length : Int) ≤ (a0.length : Int)))) (some (16, sl a0 2 (a0.length : Int))))
 (rq (decide (0 < (a0.length : Int))) (cond (((a0.getD 0 0).toNat : Int) == 48)
 (some (8, a0))
 (some (10, a0)))) : Option (Int × (List UInt8))).bind fun x1 =>
 cond (x1.2 == [])
 (some (0, 6))
 (loopF (σ := Int × Bool × Int) (R := Int × Int) (fun rc6 x5 =>
 cond (decide (x5.2.2 < (x1.2.length : Int)))
 (rq ((decide (0 ≤ x5.2.2)) && (decide (x5.2.2 < (x1.2.length : Int)))) (rq ((decide (0 ≤ x5.2.2)) && (decide (x5.2.2 < (x1.2.length : Int)))) ((arith_lower F ((x1.2.getD (Int.toNat x5.2.2) 0).toNat : Int)).bind fun x7 =>
 (strings_IndexByte F ([48, 49, 50, 51, 52, 53, 54, 55, 56, 57, 97, 98, 99, 100, 101, 102] : List UInt8) (bOr .u8 ((x1.2.getD (Int.toNat x5.2.2) 0).toNat : Int) x7)).bind fun x8 =>
 (cond (decide (x8 < 0))
 (some true)
 (some (decide (x1.1 ≤ x8))) : Option Bool).bind fun x9 =>
 cond x9
 (some (0, 6))
 ((cond x5.2.1
 (some true)
 (rq (!(x1.1 == 0)) (some (decide (w64 (Int.tdiv (w64 (9223372036854775807 - x8)) x1.1) < x5.1)))) : Option Bool).bind fun x10 =>
 cond x10
 (rc6 (x5.1, true, w64 (x5.2.2 + 1)))
 (rc6 (w64 ((w64 (x5.1 * x1.1)) + x8), x5.2.1, w64 (x5.2.2 + 1)))))))
 (cond x5.2.1
 (some (0, 14))
 (some (x5.1, 0)))) F (0, false, 0))
def arith_value_s : Shp := ⟨162, [.one (.dat .str)], [], [], ⟨.tup [.dat (.int .i64), .dat (.int .i64)], [], []⟩, none⟩
def arith_value_p : Plan := .seq [] none (.leaf) (.seq [] none (.leaf) (.seq [] (some (⟨[(4, .one (.dat (.int .i64))), (5, .one (.dat .str))], [], []⟩, false)) (.seq [] none (.region [(6, ⟨[(17, .one (.dat .bool))], [], []⟩, false)]) (.cond (.draw [⟨true, 4, none⟩]) (.leaf))) (.seq [] none (.leaf) (.seq [] none (.leaf) (.seq [] none (.seq [] none (.leaf) (.loop [] ⟨[(6, .one (.dat (.int .i64))), (7, .one (.dat .bool)), (8, .one (.dat (.int .i64)))], [], []⟩ (.seq [] none (.leaf) (.seq [] none (.seq [] none (.draw [⟨true, 6, none⟩, ⟨false, 4, none⟩]) (.seq [] none (.seq [] none (.region [(7, ⟨[(47, .one (.dat .bool))], [], []⟩, false)]) (.leaf)) (.seq [] none (.seq [] none (.region [(9, ⟨[(56, .one (.dat .bool))], [], []⟩, false)]) (.leaf)) (.leaf)))) (.leaf))))) (.leaf))))))
def arith_value_c (F : Nat) : Ctr E := ⟨arith_value_s, fun (x : List UInt8) => arith_value F x⟩
theorem arith_value_ok (F : Nat) : (arith_value_c F).Ok Tryz.prog := Ctr.ok_of (X := ⟨Tryz.prog, tyT, [strings_HasPrefix_c F, arith_lower_c F, strings_IndexByte_c F]⟩) (F := F) ⟨E_ok, okC (strings_HasPrefix_ok F) (okC (arith_lower_ok F) (okC (strings_IndexByte_ok F) (okN))), mixed⟩ (pl := arith_value_p) Tryz.func162 (by kernel_rfl) (fun x => by kernel_rfl)
/- (*jobshell/arith.parser).after -/
def arith_parser_after (F : Nat)  (a0 : List UInt8) (a1 : Int) (a2 : Int) (a3 : List UInt8) : Option Ttoken :=
 (arith_scan F a0 (w64 (a2 + (a3.length : Int)))).bind fun x1 =>
 some x1
def arith_parser_after_s : Shp := ⟨99, [.one (.ptr 0 0)], [.cells 99 [.dat .str, .dat (.int .i64), .dat (.int .i64), .dat .str]], [], ⟨.one (.dat (.ext 3)), [none], []⟩, none⟩
def arith_parser_after_p : Plan := .seq [] none (.leaf) (.seq [] none (.draw [⟨true, 16, none⟩, ⟨false, 2, none⟩]) (.leaf))
def arith_parser_after_c (F : Nat) : Ctr E := ⟨arith_parser_after_s, fun (x : (List UInt8) × Int × Int × (List UInt8)) => arith_parser_after F x.1 x.2.1 x.2.2.1 x.2.2.2⟩
theorem arith_parser_after_ok (F : Nat) : (arith_parser_after_c F).Ok Tryz.prog := Ctr.ok_of (X := ⟨Tryz.prog, tyT, [arith_scan_c F]⟩) (F := F) ⟨E_ok, okC (arith_scan_ok F) (okN), mixed⟩ (pl := arith_parser_after_p) Tryz.func99 (by kernel_rfl) (fun x => by kernel_rfl)
/- (*jobshell/arith.parser).advance -/
def arith_parser_advance (F : Nat)  (a0 : List UInt8) (a1 : Int) (a2 : Int) (a3 : List UInt8) : Option ((List UInt8) × Int × Int × (List UInt8)) :=
 (arith_parser_after F a0 a1 a2 a3).bind fun x1 =>
 some (a0, x1.fkind, x1.fpos, x1.ftext)
def arith_parser_advance_s : Shp := ⟨101, [.one (.ptr 0 0)], [.cells 99 [.dat .str, .dat (.int .i64), .dat (.int .i64), .dat .str]], [], ⟨.tup [], [some (.cells 99 [.dat .str, .dat (.int .i64), .dat (.int .i64), .dat .str])], []⟩, none⟩
def arith_parser_advance_p : Plan := .leaf
def arith_parser_advance_c (F : Nat) : Ctr E := ⟨arith_parser_advance_s, fun (x : (List UInt8) × Int × Int × (List UInt8)) => arith_parser_advance F x.1 x.2.1 x.2.2.1 x.2.2.2⟩
theorem arith_parser_advance_ok (F : Nat) : (arith_parser_advance_c F).Ok Tryz.prog := Ctr.ok_of (X := ⟨Tryz.prog, tyT, [arith_parser_after_c F]⟩) (F := F) ⟨E_ok, okC (arith_parser_after_ok F) (okN), mixed⟩ (pl := arith_parser_advance_p) Tryz.func101 (by kernel_rfl) (fun x => by kernel_rfl)
/- jobshell/chars.letter -/
def chars_letter (F : Nat)  (a0 : Int) : Option Bool :=
 (cond (decide (65 ≤ a0))
 (some (decide (a0 ≤ 90)))
 (some false) : Option Bool).bind fun x1 =>
 (cond x1
 (some true)
 (cond (decide (97 ≤ a0))
 (some (decide (a0 ≤ 122)))
 (some false)) : Option Bool).bind fun x2 =>
 some x2
def chars_letter_s : Shp := ⟨109, [.one (.dat (.int .i32))], [], [], ⟨.one (.dat .bool), [], []⟩, none⟩
def chars_letter_p : Plan := .seq [] none (.leaf) (.seq [] none (.region [(6, ⟨[(8, .one (.dat .bool))], [], []⟩, false), (8, ⟨[(16, .one (.dat .bool))], [], []⟩, false)]) (.leaf))
def chars_letter_c (F : Nat) : Ctr E := ⟨chars_letter_s, fun (x : Int) => chars_letter F x⟩
theorem chars_letter_ok (F : Nat) : (chars_letter_c F).Ok Tryz.prog := Ctr.ok_of (X := ⟨Tryz.prog, tyT, []⟩) (F := F) ⟨E_ok, okN, mixed⟩ (pl := chars_letter_p) Tryz.func109 (by kernel_rfl) (fun x => by kernel_rfl)
/- jobshell/chars.digit -/
def chars_digit (F : Nat)  (a0 : Int) : Option Bool :=
 (cond (decide (48 ≤ a0))
 (some (decide (a0 ≤ 57)))
 (some false) : Option Bool).bind fun x1 =>
 some x1
def chars_digit_s : Shp := ⟨110, [.one (.dat (.int .i32))], [], [], ⟨.one (.dat .bool), [], []⟩, none⟩
def chars_digit_p : Plan := .seq [] none (.leaf) (.seq [] none (.region [(6, ⟨[(8, .one (.dat .bool))], [], []⟩, false)]) (.leaf))
def chars_digit_c (F : Nat) : Ctr E := ⟨chars_digit_s, fun (x : Int) => chars_digit F x⟩
theorem chars_digit_ok (F : Nat) : (chars_digit_c F).Ok Tryz.prog := Ctr.ok_of (X := ⟨Tryz.prog, tyT, []⟩) (F := F) ⟨E_ok, okN, mixed⟩ (pl := chars_digit_p) Tryz.func110 (by kernel_rfl) (fun x => by kernel_rfl)
/- jobshell/chars.Name -/
def chars_Name (F : Nat)  (a0 : List UInt8) : Option Bool :=
 (cond (decide ((a0.length : Int) < 1))
 (some true)
 (some (decide (32 < (a0.length : Int)))) : Option Bool).bind fun x1 =>
 cond x1
 (some false)
 (loopF (σ := (List UInt8) × Int) (R := Bool) (fun rc3 x2 =>
 cond (Nat.blt (Int.toNat x2.2) x2.1.length)
 (((chars_letter F ((dec x2.1 (Int.toNat x2.2)).1 : Int)).bind fun x5 =>
 cond x5
 (some true)
 (some (((dec x2.1 (Int.toNat x2.2)).1 : Int) == 95)) : Option Bool).bind fun x4 =>
 (cond x4
 (some true)
 ((chars_digit F ((dec x2.1 (Int.toNat x2.2)).1 : Int)).bind fun x7 =>
 cond x7
 (some (decide (0 < (((Int.toNat x2.2) : Nat) : Int))))
 (some false)) : Option Bool).bind fun x6 =>
 cond x6
 (rc3 (x2.1, ((((Int.toNat x2.2) + (dec x2.1 (Int.toNat x2.2)).2) : Nat) : Int)))
 (some false))
 (some true)) F (a0, ((0 : Nat) : Int)))
def chars_Name_s : Shp := ⟨82, [.one (.dat .str)], [], [], ⟨.one (.dat .bool), [], []⟩, none⟩
def chars_Name_p : Plan := .seq [] none (.leaf) (.seq [] none (.seq [] none (.region [(8, ⟨[(12, .one (.dat .bool))], [], []⟩, false)]) (.leaf)) (.seq [] none (.seq [] none (.leaf) (.loop [] ⟨[], [some (.iter)], []⟩ (.seq [] none (.leaf) (.seq [] none (.leaf) (.seq [] none (.leaf) (.seq [] none (.seq [] none (.region [(6, ⟨[(24, .one (.dat .bool))], [none], []⟩, false), (8, ⟨[(32, .one (.dat .bool))], [none], []⟩, false)]) (.leaf)) (.leaf))))))) (.leaf)))
def chars_Name_c (F : Nat) : Ctr E := ⟨chars_Name_s, fun (x : List UInt8) => chars_Name F x⟩
theorem chars_Name_ok (F : Nat) : (chars_Name_c F).Ok Tryz.prog := Ctr.ok_of (X := ⟨Tryz.prog, tyT, [chars_letter_c F, chars_digit_c F]⟩) (F := F) ⟨E_ok, okC (chars_letter_ok F) (okC (chars_digit_ok F) (okN)), mixed⟩ (pl := chars_Name_p) Tryz.func82 (by kernel_rfl) (fun x => by kernel_rfl)
/- (*jobshell/arith.parser).variable -/
def arith_parser_variable (F : Nat)  (a0 : List UInt8) (a1 : Int) (a2 : Int) (a3 : List UInt8) : Option (((List UInt8) × (List UInt8) × Int × Int × (List UInt8)) ⊕ Tfault) :=
 (chars_Name F a3).bind fun x1 =>
 cond (!x1)
 (some (.inr (Tfault.mk a2 10)))
 ((arith_parser_advance F a0 a1 a2 a3).bind fun x2 =>
 some (.inl (a3, x2.1, x2.2.1, x2.2.2.1, x2.2.2.2)))
def arith_parser_variable_s : Shp := ⟨100, [.one (.ptr 0 0)], [.cells 99 [.dat .str, .dat (.int .i64), .dat (.int .i64), .dat .str]], [], ⟨.one (.dat .str), [some (.cells 99 [.dat .str, .dat (.int .i64), .dat (.int .i64), .dat .str])], []⟩, some ⟨.one (.iface 92 (.ext 2)), [none], []⟩⟩
def arith_parser_variable_p : Plan := .leaf
def arith_parser_variable_c (F : Nat) : Ctr E := ⟨arith_parser_variable_s, fun (x : (List UInt8) × Int × Int × (List UInt8)) => arith_parser_variable F x.1 x.2.1 x.2.2.1 x.2.2.2⟩
theorem arith_parser_variable_ok (F : Nat) : (arith_parser_variable_c F).Ok Tryz.prog := Ctr.ok_of (X := ⟨Tryz.prog, tyT, [chars_Name_c F, arith_parser_advance_c F]⟩) (F := F) ⟨E_ok, okC (chars_Name_ok F) (okC (arith_parser_advance_ok F) (okN)), mixed⟩ (pl := arith_parser_variable_p) Tryz.func100 (by kernel_rfl) (fun x => by kernel_rfl)
/- (*jobshell/arith.parser).reject -/
def arith_parser_reject (F : Nat)  (a0 : List UInt8) (a1 : Int) (a2 : Int) (a3 : List UInt8) : Option (Unit ⊕ Tfault) :=
 some (.inr (Tfault.mk a2 6))
def arith_parser_reject_s : Shp := ⟨67, [.one (.ptr 0 0)], [.cells 99 [.dat .str, .dat (.int .i64), .dat (.int .i64), .dat .str]], [], ⟨.one (.any), [none], []⟩, some ⟨.one (.iface 92 (.ext 2)), [none], []⟩⟩
def arith_parser_reject_p : Plan := .leaf
def arith_parser_reject_c (F : Nat) : Ctr E := ⟨arith_parser_reject_s, fun (x : (List UInt8) × Int × Int × (List UInt8)) => arith_parser_reject F x.1 x.2.1 x.2.2.1 x.2.2.2⟩
theorem arith_parser_reject_ok (F : Nat) : (arith_parser_reject_c F).Ok Tryz.prog := Ctr.ok_of (X := ⟨Tryz.prog, tyT, []⟩) (F := F) ⟨E_ok, okN, mixed⟩ (pl := arith_parser_reject_p) Tryz.func67 (by kernel_rfl) (fun x => by kernel_rfl)
/- (*jobshell/arith.parser).expect -/
def arith_parser_expect (F : Nat)  (a0 : List UInt8) (a1 : List UInt8) (a2 : Int) (a3 : Int) (a4 : List UInt8) : Option (((List UInt8) × Int × Int × (List UInt8)) ⊕ Tfault) :=
 jj (σ := Unit) (R := ((List UInt8) × Int × Int × (List UInt8)) ⊕ Tfault) ((arith_parser_sees F a0 a1 a2 a3 a4).bind fun x2 =>
 cond (!x2)
 ((arith_parser_reject F a1 a2 a3 a4).bind (sm (fun _ =>
 some (.inl ())) (fun x4 => some (.inr (.inr x4)))))
 (some (.inl ()))) fun _ =>
 (arith_parser_advance F a1 a2 a3 a4).bind fun x5 =>
 some (.inl (x5.1, x5.2.1, x5.2.2.1, x5.2.2.2))
def arith_parser_expect_s : Shp := ⟨128, [.one (.ptr 0 0), .one (.dat .str)], [.cells 99 [.dat .str, .dat (.int .i64), .dat (.int .i64), .dat .str]], [], ⟨.tup [], [some (.cells 99 [.dat .str, .dat (.int .i64), .dat (.int .i64), .dat .str])], []⟩, some ⟨.one (.iface 92 (.ext 2)), [none], []⟩⟩
def arith_parser_expect_p : Plan := .seq [] (some (⟨[], [none], []⟩, true)) (.leaf) (.leaf)
def arith_parser_expect_c (F : Nat) : Ctr E := ⟨arith_parser_expect_s, fun (x : (List UInt8) × (List UInt8) × Int × Int × (List UInt8)) => arith_parser_expect F x.1 x.2.1 x.2.2.1 x.2.2.2.1 x.2.2.2.2⟩
theorem arith_parser_expect_ok (F : Nat) : (arith_parser_expect_c F).Ok Tryz.prog := Ctr.ok_of (X := ⟨Tryz.prog, tyT, [arith_parser_sees_c F, arith_parser_reject_c F, arith_parser_advance_c F]⟩) (F := F) ⟨E_ok, okC (arith_parser_sees_ok F) (okC (arith_parser_reject_ok F) (okC (arith_parser_advance_ok F) (okN))), mixed⟩ (pl := arith_parser_expect_p) Tryz.func128 (by kernel_rfl) (fun x => by kernel_rfl)
/- jobshell/arith.binaries -/
def arith_binaries (F : Nat)   : Option (List Tbinary) :=
 some ([(Tbinary.mk ([124, 124] : List UInt8) 3 24), (Tbinary.mk ([38, 38] : List UInt8) 4 23), (Tbinary.mk ([124] : List UInt8) 5 22), (Tbinary.mk ([94] : List UInt8) 6 21), (Tbinary.mk ([38] : List UInt8) 7 20), (Tbinary.mk ([61, 61] : List UInt8) 8 18), (Tbinary.mk ([33, 61] : List UInt8) 8 19), (Tbinary.mk ([60] : List UInt8) 9 14), (Tbinary.mk ([62] : List UInt8) 9 15), (Tbinary.mk ([60, 61] : List UInt8) 9 16), (Tbinary.mk ([62, 61] : List UInt8) 9 17), (Tbinary.mk ([60, 60] : List UInt8) 10 12), (Tbinary.mk ([62, 62] : List UInt8) 10 13), (Tbinary.mk ([43] : List UInt8) 11 10), (Tbinary.mk ([45] : List UInt8) 11 11), (Tbinary.mk ([42] : List UInt8) 12 7), (Tbinary.mk ([47] : List UInt8) 12 8), (Tbinary.mk ([37] : List UInt8) 12 9)] : List Tbinary)
def arith_binaries_s : Shp := ⟨108, [], [], [], ⟨.one (.dat (.lst (.ext 5))), [], []⟩, none⟩
def arith_binaries_p : Plan := .leaf
def arith_binaries_c (F : Nat) : Ctr E := ⟨arith_binaries_s, fun (x : Unit) => arith_binaries F ⟩
theorem arith_binaries_ok (F : Nat) : (arith_binaries_c F).Ok Tryz.prog := Ctr.ok_of (X := ⟨Tryz.prog, tyT, []⟩) (F := F) ⟨E_ok, okN, mixed⟩ (pl := arith_binaries_p) Tryz.func108 (by kernel_rfl) (fun x => by kernel_rfl)
/- (*jobshell/arith.parser).operator -/
def arith_parser_operator (F : Nat)  (a0 : List UInt8) (a1 : Int) (a2 : Int) (a3 : List UInt8) : Option (Int × Int) :=
 cond (a1 == 3)
 ((arith_binaries F).bind fun x1 =>
 loopF (σ := Int) (R := Int × Int) (fun rc3 x2 =>
 cond (decide (x2 < (x1.length : Int)))
 (rq ((decide (0 ≤ x2)) && (decide (x2 < (x1.length : Int)))) (cond (((x1.getD (Int.toNat x2) dTbinary).fsymbol) == a3)
 (some ((x1.getD (Int.toNat x2) dTbinary).flevel, (x1.getD (Int.toNat x2) dTbinary).fop))
 (rc3 (w64 (x2 + 1)))))
 (some (0, 0))) F 0)
 (some (0, 0))
def arith_parser_operator_s : Shp := ⟨144, [.one (.ptr 0 0)], [.cells 99 [.dat .str, .dat (.int .i64), .dat (.int .i64), .dat .str]], [], ⟨.tup [.dat (.int .i64), .dat (.int .i64)], [none], []⟩, none⟩
def arith_parser_operator_p : Plan := .seq [] none (.leaf) (.seq [] none (.seq [] none (.leaf) (.cond (.seq [] none (.leaf) (.loop [] ⟨[(14, .one (.dat (.int .i64)))], [none], []⟩ (.seq [] none (.leaf) (.seq [] none (.leaf) (.seq [] none (.seq [] none (.leaf) (.seq [] none (.draw [⟨true, 8, none⟩]) (.cond (.seq [] none (.draw [⟨true, 6, none⟩]) (.leaf)) (.leaf)))) (.leaf)))))) (.leaf))) (.leaf))
def arith_parser_operator_c (F : Nat) : Ctr E := ⟨arith_parser_operator_s, fun (x : (List UInt8) × Int × Int × (List UInt8)) => arith_parser_operator F x.1 x.2.1 x.2.2.1 x.2.2.2⟩
theorem arith_parser_operator_ok (F : Nat) : (arith_parser_operator_c F).Ok Tryz.prog := Ctr.ok_of (X := ⟨Tryz.prog, tyT, [arith_binaries_c F]⟩) (F := F) ⟨E_ok, okC (arith_binaries_ok F) (okN), mixed⟩ (pl := arith_parser_operator_p) Tryz.func144 (by kernel_rfl) (fun x => by kernel_rfl)
/- internal/stringslite.HasSuffix -/
def stringslite_HasSuffix (F : Nat)  (a0 : List UInt8) (a1 : List UInt8) : Option Bool :=
 (cond (decide ((a1.length : Int) ≤ (a0.length : Int)))
 (rq ((decide (0 ≤ w64 ((a0.length : Int) - (a1.length : Int)))) && ((decide (w64 ((a0.length : Int) - (a1.length : Int)) ≤ (a0.length : Int))) && (decide ((a0.length : Int) ≤ (a0.length : Int))))) (some ((sl a0 (w64 ((a0.length : Int) - (a1.length : Int))) (a0.length : Int)) == a1)))
 (some false) : Option Bool).bind fun x1 =>
 some x1
def stringslite_HasSuffix_s : Shp := ⟨145, [.one (.dat .str), .one (.dat .str)], [], [], ⟨.one (.dat .bool), [], []⟩, none⟩
def stringslite_HasSuffix_p : Plan := .seq [] none (.leaf) (.seq [] none (.region [(16, ⟨[(20, .one (.dat .bool))], [], []⟩, false)]) (.leaf))
def stringslite_HasSuffix_c (F : Nat) : Ctr E := ⟨stringslite_HasSuffix_s, fun (x : (List UInt8) × (List UInt8)) => stringslite_HasSuffix F x.1 x.2⟩
theorem stringslite_HasSuffix_ok (F : Nat) : (stringslite_HasSuffix_c F).Ok Tryz.prog := Ctr.ok_of (X := ⟨Tryz.prog, tyT, []⟩) (F := F) ⟨E_ok, okN, mixed⟩ (pl := stringslite_HasSuffix_p) Tryz.func145 (by kernel_rfl) (fun x => by kernel_rfl)
/- strings.HasSuffix -/
def strings_HasSuffix (F : Nat)  (a0 : List UInt8) (a1 : List UInt8) : Option Bool :=
 (stringslite_HasSuffix F a0 a1).bind fun x1 =>
 some x1
def strings_HasSuffix_s : Shp := ⟨129, [.one (.dat .str), .one (.dat .str)], [], [], ⟨.one (.dat .bool), [], []⟩, none⟩
def strings_HasSuffix_p : Plan := .leaf
def strings_HasSuffix_c (F : Nat) : Ctr E := ⟨strings_HasSuffix_s, fun (x : (List UInt8) × (List UInt8)) => strings_HasSuffix F x.1 x.2⟩
theorem strings_HasSuffix_ok (F : Nat) : (strings_HasSuffix_c F).Ok Tryz.prog := Ctr.ok_of (X := ⟨Tryz.prog, tyT, [stringslite_HasSuffix_c F]⟩) (F := F) ⟨E_ok, okC (stringslite_HasSuffix_ok F) (okN), mixed⟩ (pl := strings_HasSuffix_p) Tryz.func129 (by kernel_rfl) (fun x => by kernel_rfl)
/- internal/stringslite.TrimSuffix -/
def stringslite_TrimSuffix (F : Nat)  (a0 : List UInt8) (a1 : List UInt8) : Option (List UInt8) :=
 (stringslite_HasSuffix F a0 a1).bind fun x1 =>
 cond x1
 (rq ((decide (0 ≤ w64 ((a0.length : Int) - (a1.length : Int)))) && (decide (w64 ((a0.length : Int) - (a1.length : Int)) ≤ (a0.length : Int)))) (some (sl a0 0 (w64 ((a0.length : Int) - (a1.length : Int))))))
 (some a0)
def stringslite_TrimSuffix_s : Shp := ⟨146, [.one (.dat .str), .one (.dat .str)], [], [], ⟨.one (.dat .str), [], []⟩, none⟩
def stringslite_TrimSuffix_p : Plan := .leaf
def stringslite_TrimSuffix_c (F : Nat) : Ctr E := ⟨stringslite_TrimSuffix_s, fun (x : (List UInt8) × (List UInt8)) => stringslite_TrimSuffix F x.1 x.2⟩
theorem stringslite_TrimSuffix_ok (F : Nat) : (stringslite_TrimSuffix_c F).Ok Tryz.prog := Ctr.ok_of (X := ⟨Tryz.prog, tyT, [stringslite_HasSuffix_c F]⟩) (F := F) ⟨E_ok, okC (stringslite_HasSuffix_ok F) (okN), mixed⟩ (pl := stringslite_TrimSuffix_p) Tryz.func146 (by kernel_rfl) (fun x => by kernel_rfl)
/- strings.TrimSuffix -/
def strings_TrimSuffix (F : Nat)  (a0 : List UInt8) (a1 : List UInt8) : Option (List UInt8) :=
 (stringslite_TrimSuffix F a0 a1).bind fun x1 =>
 some x1
def strings_TrimSuffix_s : Shp := ⟨130, [.one (.dat .str), .one (.dat .str)], [], [], ⟨.one (.dat .str), [], []⟩, none⟩
def strings_TrimSuffix_p : Plan := .leaf
def strings_TrimSuffix_c (F : Nat) : Ctr E := ⟨strings_TrimSuffix_s, fun (x : (List UInt8) × (List UInt8)) => strings_TrimSuffix F x.1 x.2⟩
theorem strings_TrimSuffix_ok (F : Nat) : (strings_TrimSuffix_c F).Ok Tryz.prog := Ctr.ok_of (X := ⟨Tryz.prog, tyT, [stringslite_TrimSuffix_c F]⟩) (F := F) ⟨E_ok, okC (stringslite_TrimSuffix_ok F) (okN), mixed⟩ (pl := strings_TrimSuffix_p) Tryz.func130 (by kernel_rfl) (fun x => by kernel_rfl)
/- jobshell/arith.compound -/
def arith_compound (F : Nat)  (a0 : Int) : Option Bool :=
 cond (a0 == 10)
 (cond (a0 == 10)
 (some true)
 (some false))
 (cond (a0 == 11)
 (cond (a0 == 11)
 (some true)
 (some false))
 (cond (a0 == 7)
 (cond (a0 == 7)
 (some true)
 (some false))
 (cond (a0 == 8)
 (cond (a0 == 8)
 (some true)
 (some false))
 (cond (a0 == 9)
 (cond (a0 == 9)
 (some true)
 (some false))
 (cond (a0 == 12)
 (cond (a0 == 12)
 (some true)
 (some false))
 (cond (a0 == 13)
 (cond (a0 == 13)
 (some true)
 (some false))
 (cond (a0 == 20)
 (cond (a0 == 20)
 (some true)
 (some false))
 (cond (a0 == 21)
 (cond (a0 == 21)
 (some true)
 (some false))
 (cond (a0 == 22)
 (some true)
 (some false))))))))))
def arith_compound_s : Shp := ⟨81, [.one (.dat (.int .i64))], [], [], ⟨.one (.dat .bool), [], []⟩, none⟩
def arith_compound_p : Plan := .leaf
def arith_compound_c (F : Nat) : Ctr E := ⟨arith_compound_s, fun (x : Int) => arith_compound F x⟩
theorem arith_compound_ok (F : Nat) : (arith_compound_c F).Ok Tryz.prog := Ctr.ok_of (X := ⟨Tryz.prog, tyT, []⟩) (F := F) ⟨E_ok, okN, mixed⟩ (pl := arith_compound_p) Tryz.func81 (by kernel_rfl) (fun x => by kernel_rfl)
/- jobshell/arith.assignment -/
def arith_assignment (F : Nat)  (a0 : Ttoken) : Option (Int × Bool) :=
 (cond (a0.fkind != 3)
 (some true)
 ((strings_HasSuffix F a0.ftext ([61] : List UInt8)).bind fun x2 =>
 some (!x2)) : Option Bool).bind fun x1 =>
 cond x1
 (some (0, false))
 ((strings_TrimSuffix F a0.ftext ([61] : List UInt8)).bind fun x3 =>
 cond (x3 == [])
 (some (0, true))
 ((arith_binaries F).bind fun x4 =>
 loopF (σ := Int) (R := Int × Bool) (fun rc6 x5 =>
 cond (decide (x5 < (x4.length : Int)))
 (rq ((decide (0 ≤ x5)) && (decide (x5 < (x4.length : Int)))) ((cond (((x4.getD (Int.toNat x5) dTbinary).fsymbol) == x3)
 ((arith_compound F ((x4.getD (Int.toNat x5) dTbinary).fop)).bind fun x8 =>
 some x8)
 (some false) : Option Bool).bind fun x7 =>
 cond x7
 (some ((x4.getD (Int.toNat x5) dTbinary).fop, true))
 (rc6 (w64 (x5 + 1)))))
 (some (0, false))) F 0))
def arith_assignment_s : Shp := ⟨98, [.one (.dat (.ext 3))], [], [], ⟨.tup [.dat (.int .i64), .dat .bool], [], []⟩, none⟩
def arith_assignment_p : Plan := .seq [] none (.leaf) (.seq [] none (.seq [] none (.region [(9, ⟨[(15, .one (.dat .bool))], [none], []⟩, false)]) (.leaf)) (.seq [] none (.leaf) (.seq [] none (.leaf) (.seq [] none (.seq [] none (.leaf) (.loop [] ⟨[(23, .one (.dat (.int .i64)))], [none], []⟩ (.seq [] none (.leaf) (.seq [] none (.leaf) (.seq [] none (.seq [] none (.leaf) (.seq [] none (.region [(9, ⟨[(35, .one (.dat .bool))], [none, none], []⟩, false)]) (.leaf))) (.leaf)))))) (.leaf)))))
def arith_assignment_c (F : Nat) : Ctr E := ⟨arith_assignment_s, fun (x : Ttoken) => arith_assignment F x⟩
theorem arith_assignment_ok (F : Nat) : (arith_assignment_c F).Ok Tryz.prog := Ctr.ok_of (X := ⟨Tryz.prog, tyT, [strings_HasSuffix_c F, strings_TrimSuffix_c F, arith_binaries_c F, arith_compound_c F]⟩) (F := F) ⟨E_ok, okC (strings_HasSuffix_ok F) (okC (strings_TrimSuffix_ok F) (okC (arith_binaries_ok F) (okC (arith_compound_ok F) (okN)))), mixed⟩ (pl := arith_assignment_p) Tryz.func98 (by kernel_rfl) (fun x => by kernel_rfl)
/- (*jobshell/arith.parser).expression -/
def arith_parser_expression_m (F : Nat) (r_arith_parser_expression : (List UInt8) → Int → Int → (List UInt8) → Option ((TExpr × (List UInt8) × Int × Int × (List UInt8)) ⊕ (Tfault × (List UInt8) × Int × Int × (List UInt8)))) (r_arith_parser_condition : (List UInt8) → Int → Int → (List UInt8) → Option ((TExpr × (List UInt8) × Int × Int × (List UInt8)) ⊕ (Tfault × (List UInt8) × Int × Int × (List UInt8)))) (r_arith_parser_operation : Int → (List UInt8) → Int → Int → (List UInt8) → Option ((TExpr × (List UInt8) × Int × Int × (List UInt8)) ⊕ (Tfault × (List UInt8) × Int × Int × (List UInt8)))) (r_arith_parser_unary : (List UInt8) → Int → Int → (List UInt8) → Option ((TExpr × (List UInt8) × Int × Int × (List UInt8)) ⊕ (Tfault × (List UInt8) × Int × Int × (List UInt8)))) (r_arith_parser_primary : (List UInt8) → Int → Int → (List UInt8) → Option ((TExpr × (List UInt8) × Int × Int × (List UInt8)) ⊕ (Tfault × (List UInt8) × Int × Int × (List UInt8)))) (a0 : List UInt8) (a1 : Int) (a2 : Int) (a3 : List UInt8) : Option ((TExpr × (List UInt8) × Int × Int × (List UInt8)) ⊕ (Tfault × (List UInt8) × Int × Int × (List UInt8))) :=
 cond (a1 != 2)
 ((r_arith_parser_condition a0 a1 a2 a3).bind (sm (fun x1 =>
 some (.inl ((TExpr.mk x1.1.fOp x1.1.fN x1.1.fName x1.1.fKids), x1.2.1, x1.2.2.1, x1.2.2.2.1, x1.2.2.2.2))) (fun x2 => some (.inr (x2.1, x2.2.1, x2.2.2.1, x2.2.2.2.1, x2.2.2.2.2)))))
 ((arith_parser_after F a0 a1 a2 a3).bind fun x3 =>
 (arith_assignment F x3).bind fun x4 =>
 cond (!x4.2)
 ((r_arith_parser_condition a0 a1 a2 a3).bind (sm (fun x5 =>
 some (.inl ((TExpr.mk x5.1.fOp x5.1.fN x5.1.fName x5.1.fKids), x5.2.1, x5.2.2.1, x5.2.2.2.1, x5.2.2.2.2))) (fun x6 => some (.inr (x6.1, x6.2.1, x6.2.2.1, x6.2.2.2.1, x6.2.2.2.2)))))
 ((arith_parser_variable F a0 a1 a2 a3).bind (sm (fun x7 =>
 (arith_parser_advance F x7.2.1 x7.2.2.1 x7.2.2.2.1 x7.2.2.2.2).bind fun x8 =>
 (r_arith_parser_expression x8.1 x8.2.1 x8.2.2.1 x8.2.2.2).bind (sm (fun x9 =>
 some (.inl ((TExpr.mk ((TExpr.mk 26 x4.1 x7.1 ([x9.1] : List TExpr)).fOp) ((TExpr.mk 26 x4.1 x7.1 ([x9.1] : List TExpr)).fN) ((TExpr.mk 26 x4.1 x7.1 ([x9.1] : List TExpr)).fName) ((TExpr.mk 26 x4.1 x7.1 ([x9.1] : List TExpr)).fKids)), x9.2.1, x9.2.2.1, x9.2.2.2.1, x9.2.2.2.2))) (fun x10 => some (.inr (x10.1, x10.2.1, x10.2.2.1, x10.2.2.2.1, x10.2.2.2.2))))) (fun x11 => some (.inr (x11, a0, a1, a2, a3))))))
def arith_parser_expression_s : Shp := ⟨66, [.one (.ptr 0 0)], [.cells 99 [.dat .str, .dat (.int .i64), .dat (.int .i64), .dat .str]], [], ⟨.one (.dat (.ext 1)), [some (.cells 99 [.dat .str, .dat (.int .i64), .dat (.int .i64), .dat .str])], []⟩, some ⟨.one (.iface 92 (.ext 2)), [some (.cells 99 [.dat .str, .dat (.int .i64), .dat (.int .i64), .dat .str])], []⟩⟩
def arith_parser_expression_p : Plan := .leaf
/- (*jobshell/arith.parser).condition -/
def arith_parser_condition_m (F : Nat) (r_arith_parser_expression : (List UInt8) → Int → Int → (List UInt8) → Option ((TExpr × (List UInt8) × Int × Int × (List UInt8)) ⊕ (Tfault × (List UInt8) × Int × Int × (List UInt8)))) (r_arith_parser_condition : (List UInt8) → Int → Int → (List UInt8) → Option ((TExpr × (List UInt8) × Int × Int × (List UInt8)) ⊕ (Tfault × (List UInt8) × Int × Int × (List UInt8)))) (r_arith_parser_operation : Int → (List UInt8) → Int → Int → (List UInt8) → Option ((TExpr × (List UInt8) × Int × Int × (List UInt8)) ⊕ (Tfault × (List UInt8) × Int × Int × (List UInt8)))) (r_arith_parser_unary : (List UInt8) → Int → Int → (List UInt8) → Option ((TExpr × (List UInt8) × Int × Int × (List UInt8)) ⊕ (Tfault × (List UInt8) × Int × Int × (List UInt8)))) (r_arith_parser_primary : (List UInt8) → Int → Int → (List UInt8) → Option ((TExpr × (List UInt8) × Int × Int × (List UInt8)) ⊕ (Tfault × (List UInt8) × Int × Int × (List UInt8)))) (a0 : List UInt8) (a1 : Int) (a2 : Int) (a3 : List UInt8) : Option ((TExpr × (List UInt8) × Int × Int × (List UInt8)) ⊕ (Tfault × (List UInt8) × Int × Int × (List UInt8))) :=
 (r_arith_parser_operation 3 a0 a1 a2 a3).bind (sm (fun x1 =>
 (arith_parser_sees F ([63] : List UInt8) x1.2.1 x1.2.2.1 x1.2.2.2.1 x1.2.2.2.2).bind fun x2 =>
 cond (!x2)
 (some (.inl ((TExpr.mk ((TExpr.mk x1.1.fOp x1.1.fN x1.1.fName x1.1.fKids).fOp) ((TExpr.mk x1.1.fOp x1.1.fN x1.1.fName x1.1.fKids).fN) ((TExpr.mk x1.1.fOp x1.1.fN x1.1.fName x1.1.fKids).fName) ((TExpr.mk x1.1.fOp x1.1.fN x1.1.fName x1.1.fKids).fKids)), x1.2.1, x1.2.2.1, x1.2.2.2.1, x1.2.2.2.2)))
 ((arith_parser_advance F x1.2.1 x1.2.2.1 x1.2.2.2.1 x1.2.2.2.2).bind fun x3 =>
 (r_arith_parser_expression x3.1 x3.2.1 x3.2.2.1 x3.2.2.2).bind (sm (fun x4 =>
 (arith_parser_expect F ([58] : List UInt8) x4.2.1 x4.2.2.1 x4.2.2.2.1 x4.2.2.2.2).bind (sm (fun x5 =>
 (r_arith_parser_condition x5.1 x5.2.1 x5.2.2.1 x5.2.2.2).bind (sm (fun x6 =>
 some (.inl ((TExpr.mk ((TExpr.mk 25 0 [] ([(TExpr.mk x1.1.fOp x1.1.fN x1.1.fName x1.1.fKids), (TExpr.mk x4.1.fOp x4.1.fN x4.1.fName x4.1.fKids), (TExpr.mk x6.1.fOp x6.1.fN x6.1.fName x6.1.fKids)] : List TExpr)).fOp) ((TExpr.mk 25 0 [] ([(TExpr.mk x1.1.fOp x1.1.fN x1.1.fName x1.1.fKids), (TExpr.mk x4.1.fOp x4.1.fN x4.1.fName x4.1.fKids), (TExpr.mk x6.1.fOp x6.1.fN x6.1.fName x6.1.fKids)] : List TExpr)).fN) ((TExpr.mk 25 0 [] ([(TExpr.mk x1.1.fOp x1.1.fN x1.1.fName x1.1.fKids), (TExpr.mk x4.1.fOp x4.1.fN x4.1.fName x4.1.fKids), (TExpr.mk x6.1.fOp x6.1.fN x6.1.fName x6.1.fKids)] : List TExpr)).fName) ((TExpr.mk 25 0 [] ([(TExpr.mk x1.1.fOp x1.1.fN x1.1.fName x1.1.fKids), (TExpr.mk x4.1.fOp x4.1.fN x4.1.fName x4.1.fKids), (TExpr.mk x6.1.fOp x6.1.fN x6.1.fName x6.1.fKids)] : List TExpr)).fKids)), x6.2.1, x6.2.2.1, x6.2.2.2.1, x6.2.2.2.2))) (fun x7 => some (.inr (x7.1, x7.2.1, x7.2.2.1, x7.2.2.2.1, x7.2.2.2.2))))) (fun x8 => some (.inr (x8, x4.2.1, x4.2.2.1, x4.2.2.2.1, x4.2.2.2.2))))) (fun x9 => some (.inr (x9.1, x9.2.1, x9.2.2.1, x9.2.2.2.1, x9.2.2.2.2)))))) (fun x10 => some (.inr (x10.1, x10.2.1, x10.2.2.1, x10.2.2.2.1, x10.2.2.2.2))))
def arith_parser_condition_s : Shp := ⟨97, [.one (.ptr 0 0)], [.cells 99 [.dat .str, .dat (.int .i64), .dat (.int .i64), .dat .str]], [], ⟨.one (.dat (.ext 1)), [some (.cells 99 [.dat .str, .dat (.int .i64), .dat (.int .i64), .dat .str])], []⟩, some ⟨.one (.iface 92 (.ext 2)), [some (.cells 99 [.dat .str, .dat (.int .i64), .dat (.int .i64), .dat .str])], []⟩⟩
def arith_parser_condition_p : Plan := .leaf
/- (*jobshell/arith.parser).operation -/
def arith_parser_operation_m (F : Nat) (r_arith_parser_expression : (List UInt8) → Int → Int → (List UInt8) → Option ((TExpr × (List UInt8) × Int × Int × (List UInt8)) ⊕ (Tfault × (List UInt8) × Int × Int × (List UInt8)))) (r_arith_parser_condition : (List UInt8) → Int → Int → (List UInt8) → Option ((TExpr × (List UInt8) × Int × Int × (List UInt8)) ⊕ (Tfault × (List UInt8) × Int × Int × (List UInt8)))) (r_arith_parser_operation : Int → (List UInt8) → Int → Int → (List UInt8) → Option ((TExpr × (List UInt8) × Int × Int × (List UInt8)) ⊕ (Tfault × (List UInt8) × Int × Int × (List UInt8)))) (r_arith_parser_unary : (List UInt8) → Int → Int → (List UInt8) → Option ((TExpr × (List UInt8) × Int × Int × (List UInt8)) ⊕ (Tfault × (List UInt8) × Int × Int × (List UInt8)))) (r_arith_parser_primary : (List UInt8) → Int → Int → (List UInt8) → Option ((TExpr × (List UInt8) × Int × Int × (List UInt8)) ⊕ (Tfault × (List UInt8) × Int × Int × (List UInt8)))) (a0 : Int) (a1 : List UInt8) (a2 : Int) (a3 : Int) (a4 : List UInt8) : Option ((TExpr × (List UInt8) × Int × Int × (List UInt8)) ⊕ (Tfault × (List UInt8) × Int × Int × (List UInt8))) :=
 (r_arith_parser_unary a1 a2 a3 a4).bind (sm (fun x1 =>
 loopF (σ := (List UInt8) × Int × Int × (List UInt8) × Int × Int × (List UInt8) × (List TExpr)) (R := (TExpr × (List UInt8) × Int × Int × (List UInt8)) ⊕ (Tfault × (List UInt8) × Int × Int × (List UInt8))) (fun rc3 x2 =>
 (arith_parser_operator F x2.1 x2.2.1 x2.2.2.1 x2.2.2.2.1).bind fun x4 =>
 cond (decide (x4.1 < a0))
 (some (.inl ((TExpr.mk ((TExpr.mk x2.2.2.2.2.1 x2.2.2.2.2.2.1 x2.2.2.2.2.2.2.1 x2.2.2.2.2.2.2.2).fOp) ((TExpr.mk x2.2.2.2.2.1 x2.2.2.2.2.2.1 x2.2.2.2.2.2.2.1 x2.2.2.2.2.2.2.2).fN) ((TExpr.mk x2.2.2.2.2.1 x2.2.2.2.2.2.1 x2.2.2.2.2.2.2.1 x2.2.2.2.2.2.2.2).fName) ((TExpr.mk x2.2.2.2.2.1 x2.2.2.2.2.2.1 x2.2.2.2.2.2.2.1 x2.2.2.2.2.2.2.2).fKids)), x2.1, x2.2.1, x2.2.2.1, x2.2.2.2.1)))
 ((arith_parser_advance F x2.1 x2.2.1 x2.2.2.1 x2.2.2.2.1).bind fun x5 =>
 (r_arith_parser_operation (w64 (x4.1 + 1)) x5.1 x5.2.1 x5.2.2.1 x5.2.2.2).bind (sm (fun x6 =>
 rc3 (x6.2.1, x6.2.2.1, x6.2.2.2.1, x6.2.2.2.2, (TExpr.mk x4.2 0 [] ([(TExpr.mk x2.2.2.2.2.1 x2.2.2.2.2.2.1 x2.2.2.2.2.2.2.1 x2.2.2.2.2.2.2.2), (TExpr.mk x6.1.fOp x6.1.fN x6.1.fName x6.1.fKids)] : List TExpr)).fOp, (TExpr.mk x4.2 0 [] ([(TExpr.mk x2.2.2.2.2.1 x2.2.2.2.2.2.1 x2.2.2.2.2.2.2.1 x2.2.2.2.2.2.2.2), (TExpr.mk x6.1.fOp x6.1.fN x6.1.fName x6.1.fKids)] : List TExpr)).fN, (TExpr.mk x4.2 0 [] ([(TExpr.mk x2.2.2.2.2.1 x2.2.2.2.2.2.1 x2.2.2.2.2.2.2.1 x2.2.2.2.2.2.2.2), (TExpr.mk x6.1.fOp x6.1.fN x6.1.fName x6.1.fKids)] : List TExpr)).fName, (TExpr.mk x4.2 0 [] ([(TExpr.mk x2.2.2.2.2.1 x2.2.2.2.2.2.1 x2.2.2.2.2.2.2.1 x2.2.2.2.2.2.2.2), (TExpr.mk x6.1.fOp x6.1.fN x6.1.fName x6.1.fKids)] : List TExpr)).fKids)) (fun x7 => some (.inr (x7.1, x7.2.1, x7.2.2.1, x7.2.2.2.1, x7.2.2.2.2)))))) F (x1.2.1, x1.2.2.1, x1.2.2.2.1, x1.2.2.2.2, x1.1.fOp, x1.1.fN, x1.1.fName, x1.1.fKids)) (fun x8 => some (.inr (x8.1, x8.2.1, x8.2.2.1, x8.2.2.2.1, x8.2.2.2.2))))
def arith_parser_operation_s : Shp := ⟨126, [.one (.ptr 0 0), .one (.dat (.int .i64))], [.cells 99 [.dat .str, .dat (.int .i64), .dat (.int .i64), .dat .str]], [], ⟨.one (.dat (.ext 1)), [some (.cells 99 [.dat .str, .dat (.int .i64), .dat (.int .i64), .dat .str])], []⟩, some ⟨.one (.iface 92 (.ext 2)), [some (.cells 99 [.dat .str, .dat (.int .i64), .dat (.int .i64), .dat .str])], []⟩⟩
def arith_parser_operation_p : Plan := .seq [] none (.leaf) (.seq [] none (.leaf) (.loop [] ⟨[], [some (.cells 99 [.dat .str, .dat (.int .i64), .dat (.int .i64), .dat .str]), none, some (.cells 31 [.dat (.int .i64), .dat (.int .i64), .dat .str, .dat (.lst (.ext 1))])], []⟩ (.leaf)))
/- (*jobshell/arith.parser).unary -/
def arith_parser_unary_m (F : Nat) (r_arith_parser_expression : (List UInt8) → Int → Int → (List UInt8) → Option ((TExpr × (List UInt8) × Int × Int × (List UInt8)) ⊕ (Tfault × (List UInt8) × Int × Int × (List UInt8)))) (r_arith_parser_condition : (List UInt8) → Int → Int → (List UInt8) → Option ((TExpr × (List UInt8) × Int × Int × (List UInt8)) ⊕ (Tfault × (List UInt8) × Int × Int × (List UInt8)))) (r_arith_parser_operation : Int → (List UInt8) → Int → Int → (List UInt8) → Option ((TExpr × (List UInt8) × Int × Int × (List UInt8)) ⊕ (Tfault × (List UInt8) × Int × Int × (List UInt8)))) (r_arith_parser_unary : (List UInt8) → Int → Int → (List UInt8) → Option ((TExpr × (List UInt8) × Int × Int × (List UInt8)) ⊕ (Tfault × (List UInt8) × Int × Int × (List UInt8)))) (r_arith_parser_primary : (List UInt8) → Int → Int → (List UInt8) → Option ((TExpr × (List UInt8) × Int × Int × (List UInt8)) ⊕ (Tfault × (List UInt8) × Int × Int × (List UInt8)))) (a0 : List UInt8) (a1 : Int) (a2 : Int) (a3 : List UInt8) : Option ((TExpr × (List UInt8) × Int × Int × (List UInt8)) ⊕ (Tfault × (List UInt8) × Int × Int × (List UInt8))) :=
 jj (σ := Int) (R := (TExpr × (List UInt8) × Int × Int × (List UInt8)) ⊕ (Tfault × (List UInt8) × Int × Int × (List UInt8))) ((arith_parser_sees F ([45] : List UInt8) a0 a1 a2 a3).bind fun x2 =>
 cond x2
 (some (.inl 3))
 ((arith_parser_sees F ([43] : List UInt8) a0 a1 a2 a3).bind fun x3 =>
 cond x3
 (some (.inl 4))
 ((arith_parser_sees F ([33] : List UInt8) a0 a1 a2 a3).bind fun x4 =>
 cond x4
 (some (.inl 5))
 ((arith_parser_sees F ([126] : List UInt8) a0 a1 a2 a3).bind fun x5 =>
 cond x5
 (some (.inl 6))
 ((r_arith_parser_primary a0 a1 a2 a3).bind (sm (fun x6 =>
 some (.inr (.inl ((TExpr.mk x6.1.fOp x6.1.fN x6.1.fName x6.1.fKids), x6.2.1, x6.2.2.1, x6.2.2.2.1, x6.2.2.2.2)))) (fun x7 => some (.inr (.inr (x7.1, x7.2.1, x7.2.2.1, x7.2.2.2.1, x7.2.2.2.2)))))))))) fun x1 =>
 (arith_parser_advance F a0 a1 a2 a3).bind fun x8 =>
 (r_arith_parser_unary x8.1 x8.2.1 x8.2.2.1 x8.2.2.2).bind (sm (fun x9 =>
 some (.inl ((TExpr.mk ((TExpr.mk x1 0 [] ([x9.1] : List TExpr)).fOp) ((TExpr.mk x1 0 [] ([x9.1] : List TExpr)).fN) ((TExpr.mk x1 0 [] ([x9.1] : List TExpr)).fName) ((TExpr.mk x1 0 [] ([x9.1] : List TExpr)).fKids)), x9.2.1, x9.2.2.1, x9.2.2.2.1, x9.2.2.2.2))) (fun x10 => some (.inr (x10.1, x10.2.1, x10.2.2.1, x10.2.2.2.1, x10.2.2.2.2))))
def arith_parser_unary_s : Shp := ⟨143, [.one (.ptr 0 0)], [.cells 99 [.dat .str, .dat (.int .i64), .dat (.int .i64), .dat .str]], [], ⟨.one (.dat (.ext 1)), [some (.cells 99 [.dat .str, .dat (.int .i64), .dat (.int .i64), .dat .str])], []⟩, some ⟨.one (.iface 92 (.ext 2)), [some (.cells 99 [.dat .str, .dat (.int .i64), .dat (.int .i64), .dat .str])], []⟩⟩
def arith_parser_unary_p : Plan := .seq [] none (.leaf) (.seq [] none (.leaf) (.seq [] (some (⟨[(3, .one (.dat (.int .i64)))], [none, none], []⟩, true)) (.leaf) (.leaf)))
/- (*jobshell/arith.parser).primary -/
def arith_parser_primary_m (F : Nat) (r_arith_parser_expression : (List UInt8) → Int → Int → (List UInt8) → Option ((TExpr × (List UInt8) × Int × Int × (List UInt8)) ⊕ (Tfault × (List UInt8) × Int × Int × (List UInt8)))) (r_arith_parser_condition : (List UInt8) → Int → Int → (List UInt8) → Option ((TExpr × (List UInt8) × Int × Int × (List UInt8)) ⊕ (Tfault × (List UInt8) × Int × Int × (List UInt8)))) (r_arith_parser_operation : Int → (List UInt8) → Int → Int → (List UInt8) → Option ((TExpr × (List UInt8) × Int × Int × (List UInt8)) ⊕ (Tfault × (List UInt8) × Int × Int × (List UInt8)))) (r_arith_parser_unary : (List UInt8) → Int → Int → (List UInt8) → Option ((TExpr × (List UInt8) × Int × Int × (List UInt8)) ⊕ (Tfault × (List UInt8) × Int × Int × (List UInt8)))) (r_arith_parser_primary : (List UInt8) → Int → Int → (List UInt8) → Option ((TExpr × (List UInt8) × Int × Int × (List UInt8)) ⊕ (Tfault × (List UInt8) × Int × Int × (List UInt8)))) (a0 : List UInt8) (a1 : Int) (a2 : Int) (a3 : List UInt8) : Option ((TExpr × (List UInt8) × Int × Int × (List UInt8)) ⊕ (Tfault × (List UInt8) × Int × Int × (List UInt8))) :=
 cond (a1 == 1)
 ((arith_value F a3).bind fun x1 =>
 cond (x1.2 != 0)
 (some (.inr ((Tfault.mk a2 x1.2), a0, a1, a2, a3)))
 ((arith_parser_advance F a0 a1 a2 a3).bind fun x2 =>
 some (.inl ((TExpr.mk ((TExpr.mk 1 x1.1 [] []).fOp) ((TExpr.mk 1 x1.1 [] []).fN) ((TExpr.mk 1 x1.1 [] []).fName) ((TExpr.mk 1 x1.1 [] []).fKids)), x2.1, x2.2.1, x2.2.2.1, x2.2.2.2))))
 (cond (a1 == 2)
 ((arith_parser_variable F a0 a1 a2 a3).bind (sm (fun x3 =>
 some (.inl ((TExpr.mk ((TExpr.mk 2 0 x3.1 []).fOp) ((TExpr.mk 2 0 x3.1 []).fN) ((TExpr.mk 2 0 x3.1 []).fName) ((TExpr.mk 2 0 x3.1 []).fKids)), x3.2.1, x3.2.2.1, x3.2.2.2.1, x3.2.2.2.2))) (fun x4 => some (.inr (x4, a0, a1, a2, a3)))))
 ((arith_parser_expect F ([40] : List UInt8) a0 a1 a2 a3).bind (sm (fun x5 =>
 (r_arith_parser_expression x5.1 x5.2.1 x5.2.2.1 x5.2.2.2).bind (sm (fun x6 =>
 (arith_parser_expect F ([41] : List UInt8) x6.2.1 x6.2.2.1 x6.2.2.2.1 x6.2.2.2.2).bind (sm (fun x7 =>
 some (.inl ((TExpr.mk ((TExpr.mk x6.1.fOp x6.1.fN x6.1.fName x6.1.fKids).fOp) ((TExpr.mk x6.1.fOp x6.1.fN x6.1.fName x6.1.fKids).fN) ((TExpr.mk x6.1.fOp x6.1.fN x6.1.fName x6.1.fKids).fName) ((TExpr.mk x6.1.fOp x6.1.fN x6.1.fName x6.1.fKids).fKids)), x7.1, x7.2.1, x7.2.2.1, x7.2.2.2))) (fun x8 => some (.inr (x8, x6.2.1, x6.2.2.1, x6.2.2.2.1, x6.2.2.2.2))))) (fun x9 => some (.inr (x9.1, x9.2.1, x9.2.2.1, x9.2.2.2.1, x9.2.2.2.2))))) (fun x10 => some (.inr (x10, a0, a1, a2, a3))))))
def arith_parser_primary_s : Shp := ⟨154, [.one (.ptr 0 0)], [.cells 99 [.dat .str, .dat (.int .i64), .dat (.int .i64), .dat .str]], [], ⟨.one (.dat (.ext 1)), [some (.cells 99 [.dat .str, .dat (.int .i64), .dat (.int .i64), .dat .str])], []⟩, some ⟨.one (.iface 92 (.ext 2)), [some (.cells 99 [.dat .str, .dat (.int .i64), .dat (.int .i64), .dat .str])], []⟩⟩
def arith_parser_primary_p : Plan := .leaf
def arith_parser_expression_G (F : Nat) : Nat → ((List UInt8) → Int → Int → (List UInt8) → Option ((TExpr × (List UInt8) × Int × Int × (List UInt8)) ⊕ (Tfault × (List UInt8) × Int × Int × (List UInt8)))) × ((List UInt8) → Int → Int → (List UInt8) → Option ((TExpr × (List UInt8) × Int × Int × (List UInt8)) ⊕ (Tfault × (List UInt8) × Int × Int × (List UInt8)))) × (Int → (List UInt8) → Int → Int → (List UInt8) → Option ((TExpr × (List UInt8) × Int × Int × (List UInt8)) ⊕ (Tfault × (List UInt8) × Int × Int × (List UInt8)))) × ((List UInt8) → Int → Int → (List UInt8) → Option ((TExpr × (List UInt8) × Int × Int × (List UInt8)) ⊕ (Tfault × (List UInt8) × Int × Int × (List UInt8)))) × ((List UInt8) → Int → Int → (List UInt8) → Option ((TExpr × (List UInt8) × Int × Int × (List UInt8)) ⊕ (Tfault × (List UInt8) × Int × Int × (List UInt8))))
  | 0 => (fun _ _ _ _ => none, fun _ _ _ _ => none, fun _ _ _ _ _ => none, fun _ _ _ _ => none, fun _ _ _ _ => none)
  | n + 1 => (arith_parser_expression_m F (arith_parser_expression_G F n).1 (arith_parser_expression_G F n).2.1 (arith_parser_expression_G F n).2.2.1 (arith_parser_expression_G F n).2.2.2.1 (arith_parser_expression_G F n).2.2.2.2, arith_parser_condition_m F (arith_parser_expression_G F n).1 (arith_parser_expression_G F n).2.1 (arith_parser_expression_G F n).2.2.1 (arith_parser_expression_G F n).2.2.2.1 (arith_parser_expression_G F n).2.2.2.2, arith_parser_operation_m F (arith_parser_expression_G F n).1 (arith_parser_expression_G F n).2.1 (arith_parser_expression_G F n).2.2.1 (arith_parser_expression_G F n).2.2.2.1 (arith_parser_expression_G F n).2.2.2.2, arith_parser_unary_m F (arith_parser_expression_G F n).1 (arith_parser_expression_G F n).2.1 (arith_parser_expression_G F n).2.2.1 (arith_parser_expression_G F n).2.2.2.1 (arith_parser_expression_G F n).2.2.2.2, arith_parser_primary_m F (arith_parser_expression_G F n).1 (arith_parser_expression_G F n).2.1 (arith_parser_expression_G F n).2.2.1 (arith_parser_expression_G F n).2.2.2.1 (arith_parser_expression_G F n).2.2.2.2)
def arith_parser_expression_n (F n : Nat) : (List UInt8) → Int → Int → (List UInt8) → Option ((TExpr × (List UInt8) × Int × Int × (List UInt8)) ⊕ (Tfault × (List UInt8) × Int × Int × (List UInt8))) := (arith_parser_expression_G F n).1
def arith_parser_condition_n (F n : Nat) : (List UInt8) → Int → Int → (List UInt8) → Option ((TExpr × (List UInt8) × Int × Int × (List UInt8)) ⊕ (Tfault × (List UInt8) × Int × Int × (List UInt8))) := (arith_parser_expression_G F n).2.1
def arith_parser_operation_n (F n : Nat) : Int → (List UInt8) → Int → Int → (List UInt8) → Option ((TExpr × (List UInt8) × Int × Int × (List UInt8)) ⊕ (Tfault × (List UInt8) × Int × Int × (List UInt8))) := (arith_parser_expression_G F n).2.2.1
def arith_parser_unary_n (F n : Nat) : (List UInt8) → Int → Int → (List UInt8) → Option ((TExpr × (List UInt8) × Int × Int × (List UInt8)) ⊕ (Tfault × (List UInt8) × Int × Int × (List UInt8))) := (arith_parser_expression_G F n).2.2.2.1
def arith_parser_primary_n (F n : Nat) : (List UInt8) → Int → Int → (List UInt8) → Option ((TExpr × (List UInt8) × Int × Int × (List UInt8)) ⊕ (Tfault × (List UInt8) × Int × Int × (List UInt8))) := (arith_parser_expression_G F n).2.2.2.2
def arith_parser_expression (F : Nat) (a0 : List UInt8) (a1 : Int) (a2 : Int) (a3 : List UInt8) : Option ((TExpr × (List UInt8) × Int × Int × (List UInt8)) ⊕ (Tfault × (List UInt8) × Int × Int × (List UInt8))) := arith_parser_expression_n F F a0 a1 a2 a3
def arith_parser_condition (F : Nat) (a0 : List UInt8) (a1 : Int) (a2 : Int) (a3 : List UInt8) : Option ((TExpr × (List UInt8) × Int × Int × (List UInt8)) ⊕ (Tfault × (List UInt8) × Int × Int × (List UInt8))) := arith_parser_condition_n F F a0 a1 a2 a3
def arith_parser_operation (F : Nat) (a0 : Int) (a1 : List UInt8) (a2 : Int) (a3 : Int) (a4 : List UInt8) : Option ((TExpr × (List UInt8) × Int × Int × (List UInt8)) ⊕ (Tfault × (List UInt8) × Int × Int × (List UInt8))) := arith_parser_operation_n F F a0 a1 a2 a3 a4
def arith_parser_unary (F : Nat) (a0 : List UInt8) (a1 : Int) (a2 : Int) (a3 : List UInt8) : Option ((TExpr × (List UInt8) × Int × Int × (List UInt8)) ⊕ (Tfault × (List UInt8) × Int × Int × (List UInt8))) := arith_parser_unary_n F F a0 a1 a2 a3
def arith_parser_primary (F : Nat) (a0 : List UInt8) (a1 : Int) (a2 : Int) (a3 : List UInt8) : Option ((TExpr × (List UInt8) × Int × Int × (List UInt8)) ⊕ (Tfault × (List UInt8) × Int × Int × (List UInt8))) := arith_parser_primary_n F F a0 a1 a2 a3
def arith_parser_expression_cn (F n : Nat) : Ctr E := ⟨arith_parser_expression_s, fun (x : (List UInt8) × Int × Int × (List UInt8)) => arith_parser_expression_n F n x.1 x.2.1 x.2.2.1 x.2.2.2⟩
def arith_parser_expression_c (F : Nat) : Ctr E := ⟨arith_parser_expression_s, fun (x : (List UInt8) × Int × Int × (List UInt8)) => arith_parser_expression F x.1 x.2.1 x.2.2.1 x.2.2.2⟩
def arith_parser_condition_cn (F n : Nat) : Ctr E := ⟨arith_parser_condition_s, fun (x : (List UInt8) × Int × Int × (List UInt8)) => arith_parser_condition_n F n x.1 x.2.1 x.2.2.1 x.2.2.2⟩
def arith_parser_condition_c (F : Nat) : Ctr E := ⟨arith_parser_condition_s, fun (x : (List UInt8) × Int × Int × (List UInt8)) => arith_parser_condition F x.1 x.2.1 x.2.2.1 x.2.2.2⟩
def arith_parser_operation_cn (F n : Nat) : Ctr E := ⟨arith_parser_operation_s, fun (x : Int × (List UInt8) × Int × Int × (List UInt8)) => arith_parser_operation_n F n x.1 x.2.1 x.2.2.1 x.2.2.2.1 x.2.2.2.2⟩
def arith_parser_operation_c (F : Nat) : Ctr E := ⟨arith_parser_operation_s, fun (x : Int × (List UInt8) × Int × Int × (List UInt8)) => arith_parser_operation F x.1 x.2.1 x.2.2.1 x.2.2.2.1 x.2.2.2.2⟩
def arith_parser_unary_cn (F n : Nat) : Ctr E := ⟨arith_parser_unary_s, fun (x : (List UInt8) × Int × Int × (List UInt8)) => arith_parser_unary_n F n x.1 x.2.1 x.2.2.1 x.2.2.2⟩
def arith_parser_unary_c (F : Nat) : Ctr E := ⟨arith_parser_unary_s, fun (x : (List UInt8) × Int × Int × (List UInt8)) => arith_parser_unary F x.1 x.2.1 x.2.2.1 x.2.2.2⟩
def arith_parser_primary_cn (F n : Nat) : Ctr E := ⟨arith_parser_primary_s, fun (x : (List UInt8) × Int × Int × (List UInt8)) => arith_parser_primary_n F n x.1 x.2.1 x.2.2.1 x.2.2.2⟩
def arith_parser_primary_c (F : Nat) : Ctr E := ⟨arith_parser_primary_s, fun (x : (List UInt8) × Int × Int × (List UInt8)) => arith_parser_primary F x.1 x.2.1 x.2.2.1 x.2.2.2⟩
theorem arith_parser_expression_st (F n : Nat) (h : (arith_parser_expression_cn F n).Ok Tryz.prog ∧ (arith_parser_condition_cn F n).Ok Tryz.prog ∧ (arith_parser_operation_cn F n).Ok Tryz.prog ∧ (arith_parser_unary_cn F n).Ok Tryz.prog ∧ (arith_parser_primary_cn F n).Ok Tryz.prog) : (arith_parser_expression_cn F (n + 1)).Ok Tryz.prog := Ctr.ok_of (X := ⟨Tryz.prog, tyT, [arith_parser_condition_cn F n, arith_parser_after_c F, arith_assignment_c F, arith_parser_variable_c F, arith_parser_advance_c F, arith_parser_expression_cn F n]⟩) (F := F) ⟨E_ok, okC h.2.1 (okC (arith_parser_after_ok F) (okC (arith_assignment_ok F) (okC (arith_parser_variable_ok F) (okC (arith_parser_advance_ok F) (okC h.1 (okN)))))), mixed⟩ (pl := arith_parser_expression_p) Tryz.func66 (by kernel_rfl) (fun x => by kernel_rfl)
theorem arith_parser_condition_st (F n : Nat) (h : (arith_parser_expression_cn F n).Ok Tryz.prog ∧ (arith_parser_condition_cn F n).Ok Tryz.prog ∧ (arith_parser_operation_cn F n).Ok Tryz.prog ∧ (arith_parser_unary_cn F n).Ok Tryz.prog ∧ (arith_parser_primary_cn F n).Ok Tryz.prog) : (arith_parser_condition_cn F (n + 1)).Ok Tryz.prog := Ctr.ok_of (X := ⟨Tryz.prog, tyT, [arith_parser_operation_cn F n, arith_parser_sees_c F, arith_parser_advance_c F, arith_parser_expression_cn F n, arith_parser_expect_c F, arith_parser_condition_cn F n]⟩) (F := F) ⟨E_ok, okC h.2.2.1 (okC (arith_parser_sees_ok F) (okC (arith_parser_advance_ok F) (okC h.1 (okC (arith_parser_expect_ok F) (okC h.2.1 (okN)))))), mixed⟩ (pl := arith_parser_condition_p) Tryz.func97 (by kernel_rfl) (fun x => by kernel_rfl)
theorem arith_parser_operation_st (F n : Nat) (h : (arith_parser_expression_cn F n).Ok Tryz.prog ∧ (arith_parser_condition_cn F n).Ok Tryz.prog ∧ (arith_parser_operation_cn F n).Ok Tryz.prog ∧ (arith_parser_unary_cn F n).Ok Tryz.prog ∧ (arith_parser_primary_cn F n).Ok Tryz.prog) : (arith_parser_operation_cn F (n + 1)).Ok Tryz.prog := Ctr.ok_of (X := ⟨Tryz.prog, tyT, [arith_parser_unary_cn F n, arith_parser_operator_c F, arith_parser_advance_c F, arith_parser_operation_cn F n]⟩) (F := F) ⟨E_ok, okC h.2.2.2.1 (okC (arith_parser_operator_ok F) (okC (arith_parser_advance_ok F) (okC h.2.2.1 (okN)))), mixed⟩ (pl := arith_parser_operation_p) Tryz.func126 (by kernel_rfl) (fun x => by kernel_rfl)
theorem arith_parser_unary_st (F n : Nat) (h : (arith_parser_expression_cn F n).Ok Tryz.prog ∧ (arith_parser_condition_cn F n).Ok Tryz.prog ∧ (arith_parser_operation_cn F n).Ok Tryz.prog ∧ (arith_parser_unary_cn F n).Ok Tryz.prog ∧ (arith_parser_primary_cn F n).Ok Tryz.prog) : (arith_parser_unary_cn F (n + 1)).Ok Tryz.prog := Ctr.ok_of (X := ⟨Tryz.prog, tyT, [arith_parser_sees_c F, arith_parser_primary_cn F n, arith_parser_advance_c F, arith_parser_unary_cn F n]⟩) (F := F) ⟨E_ok, okC (arith_parser_sees_ok F) (okC h.2.2.2.2 (okC (arith_parser_advance_ok F) (okC h.2.2.2.1 (okN)))), mixed⟩ (pl := arith_parser_unary_p) Tryz.func143 (by kernel_rfl) (fun x => by kernel_rfl)
theorem arith_parser_primary_st (F n : Nat) (h : (arith_parser_expression_cn F n).Ok Tryz.prog ∧ (arith_parser_condition_cn F n).Ok Tryz.prog ∧ (arith_parser_operation_cn F n).Ok Tryz.prog ∧ (arith_parser_unary_cn F n).Ok Tryz.prog ∧ (arith_parser_primary_cn F n).Ok Tryz.prog) : (arith_parser_primary_cn F (n + 1)).Ok Tryz.prog := Ctr.ok_of (X := ⟨Tryz.prog, tyT, [arith_value_c F, arith_parser_advance_c F, arith_parser_variable_c F, arith_parser_expect_c F, arith_parser_expression_cn F n]⟩) (F := F) ⟨E_ok, okC (arith_value_ok F) (okC (arith_parser_advance_ok F) (okC (arith_parser_variable_ok F) (okC (arith_parser_expect_ok F) (okC h.1 (okN))))), mixed⟩ (pl := arith_parser_primary_p) Tryz.func154 (by kernel_rfl) (fun x => by kernel_rfl)
theorem arith_parser_expression_okn (F : Nat) : ∀ n, (arith_parser_expression_cn F n).Ok Tryz.prog ∧ (arith_parser_condition_cn F n).Ok Tryz.prog ∧ (arith_parser_operation_cn F n).Ok Tryz.prog ∧ (arith_parser_unary_cn F n).Ok Tryz.prog ∧ (arith_parser_primary_cn F n).Ok Tryz.prog
  | 0 => ⟨(fun x y h => nomatch (show none = some y from h)), (fun x y h => nomatch (show none = some y from h)), (fun x y h => nomatch (show none = some y from h)), (fun x y h => nomatch (show none = some y from h)), (fun x y h => nomatch (show none = some y from h))⟩
  | n + 1 => by
    have h := arith_parser_expression_okn F n
    exact ⟨arith_parser_expression_st F n h,
      arith_parser_condition_st F n h,
      arith_parser_operation_st F n h,
      arith_parser_unary_st F n h,
      arith_parser_primary_st F n h⟩
theorem arith_parser_expression_ok (F : Nat) : (arith_parser_expression_c F).Ok Tryz.prog := (arith_parser_expression_okn F F).1
theorem arith_parser_condition_ok (F : Nat) : (arith_parser_condition_c F).Ok Tryz.prog := (arith_parser_expression_okn F F).2.1
theorem arith_parser_operation_ok (F : Nat) : (arith_parser_operation_c F).Ok Tryz.prog := (arith_parser_expression_okn F F).2.2.1
theorem arith_parser_unary_ok (F : Nat) : (arith_parser_unary_c F).Ok Tryz.prog := (arith_parser_expression_okn F F).2.2.2.1
theorem arith_parser_primary_ok (F : Nat) : (arith_parser_primary_c F).Ok Tryz.prog := (arith_parser_expression_okn F F).2.2.2.2
/- jobshell/arith.depth -/
def arith_depth_m (F : Nat) (r_arith_depth : TExpr → Option Int) (a0 : TExpr) : Option Int :=
 loopF (σ := Int × Int) (R := Int) (fun rc2 x1 =>
 cond (decide (x1.2 < (a0.fKids.length : Int)))
 (rq ((decide (0 ≤ x1.2)) && (decide (x1.2 < (a0.fKids.length : Int)))) ((r_arith_depth (TExpr.mk ((a0.fKids.getD (Int.toNat x1.2) dTExpr).fOp) ((a0.fKids.getD (Int.toNat x1.2) dTExpr).fN) ((a0.fKids.getD (Int.toNat x1.2) dTExpr).fName) ((a0.fKids.getD (Int.toNat x1.2) dTExpr).fKids))).bind fun x3 =>
 rc2 (cond (decide (x1.1 < x3)) x3 x1.1, w64 (x1.2 + 1))))
 (some (w64 (x1.1 + 1)))) F (0, 0)
def arith_depth_s : Shp := ⟨68, [.one (.dat (.ext 1))], [], [], ⟨.one (.dat (.int .i64)), [], []⟩, none⟩
def arith_depth_p : Plan := .seq [] none (.leaf) (.seq [] none (.leaf) (.seq [] none (.seq [] none (.leaf) (.loop [] ⟨[(3, .one (.dat (.int .i64))), (9, .one (.dat (.int .i64)))], [none], []⟩ (.leaf))) (.leaf)))
def arith_depth_n (F : Nat) : Nat → TExpr → Option Int
  | 0 => fun _ => none
  | n + 1 => arith_depth_m F (arith_depth_n F n)
def arith_depth (F : Nat) (a0 : TExpr) : Option Int := arith_depth_n F F a0
def arith_depth_cn (F n : Nat) : Ctr E := ⟨arith_depth_s, fun (x : TExpr) => arith_depth_n F n x⟩
def arith_depth_c (F : Nat) : Ctr E := ⟨arith_depth_s, fun (x : TExpr) => arith_depth F x⟩
theorem arith_depth_st (F n : Nat) (h : (arith_depth_cn F n).Ok Tryz.prog) : (arith_depth_cn F (n + 1)).Ok Tryz.prog := Ctr.ok_of (X := ⟨Tryz.prog, tyT, [arith_depth_cn F n]⟩) (F := F) ⟨E_ok, okC h (okN), mixed⟩ (pl := arith_depth_p) Tryz.func68 (by kernel_rfl) (fun x => by kernel_rfl)
theorem arith_depth_okn (F : Nat) : ∀ n, (arith_depth_cn F n).Ok Tryz.prog
  | 0 => (fun x y h => nomatch (show none = some y from h))
  | n + 1 => by
    have h := arith_depth_okn F n
    exact arith_depth_st F n h
theorem arith_depth_ok (F : Nat) : (arith_depth_c F).Ok Tryz.prog := (arith_depth_okn F F)
/- jobshell/arith.Parse$1 -/
def arith_Parse_1 (F : Nat)  (a0 : Tfault) (a1 : Int) (a2 : Int) (a3 : List UInt8) (a4 : List TExpr) (a5 : Int) (a6 : Int) : Option (Int × Int × (List UInt8) × (List TExpr) × Int × Int) :=
 some ((TExpr.mk 0 0 [] []).fOp, (TExpr.mk 0 0 [] []).fN, (TExpr.mk 0 0 [] []).fName, (TExpr.mk 0 0 [] []).fKids, a0.fat, a0.ferr)
def arith_Parse_1_s : Shp := ⟨64, [.one (.iface 92 (.ext 2)), .one (.ptr 0 0), .one (.ptr 1 0), .one (.ptr 2 0)], [.cells 31 [.dat (.int .i64), .dat (.int .i64), .dat .str, .gsl 0 (.ext 1)], .cells 3 [.dat (.int .i64)], .cells 23 [.dat (.int .i64)]], [(31, 4)], ⟨.tup [], [some (.cells 31 [.dat (.int .i64), .dat (.int .i64), .dat .str, .dat (.lst (.ext 1))]), some (.cells 3 [.dat (.int .i64)]), some (.cells 23 [.dat (.int .i64)])], [none]⟩, none⟩
def arith_Parse_1_p : Plan := .seq [] none (.leaf) (.cond (.seq [] none (.leaf) (.seq [] none (.leaf) (.seq [] none (.leaf) (.cond (.drawP [3] [] [⟨[(0, true), (1, true), (2, true), (3, true), (4, false), (5, false)], none⟩]) (.leaf))))) (.leaf))
def arith_Parse_1_c (F : Nat) : Ctr E := ⟨arith_Parse_1_s, fun (x : Tfault × Int × Int × (List UInt8) × (List TExpr) × Int × Int) => arith_Parse_1 F x.1 x.2.1 x.2.2.1 x.2.2.2.1 x.2.2.2.2.1 x.2.2.2.2.2.1 x.2.2.2.2.2.2⟩
theorem arith_Parse_1_okR (F : Nat) : (arith_Parse_1_c F).GOk (CallsR Tryz.prog) := Ctr.okR_of (X := ⟨Tryz.prog, tyT, []⟩) (F := F) ⟨E_ok, okN, mixed⟩ (pl := arith_Parse_1_p) Tryz.func64 (by kernel_rfl) (fun x => by kernel_rfl)
/- jobshell/arith.Parse$1 -/
def arith_Parse_1_1 (F : Nat)  (a0 : Int) (a1 : Int) (a2 : List UInt8) (a3 : List TExpr) (a4 : Int) (a5 : Int) : Option Unit :=
 some ()
def arith_Parse_1_1_s : Shp := ⟨64, [.one (.nil .iface), .one (.ptr 0 0), .one (.ptr 1 0), .one (.ptr 2 0)], [.cells 31 [.dat (.int .i64), .dat (.int .i64), .dat .str, .dat (.lst (.ext 1))], .cells 3 [.dat (.int .i64)], .cells 23 [.dat (.int .i64)]], [], ⟨.tup [], [none, none, none], []⟩, none⟩
def arith_Parse_1_1_p : Plan := .seq [] none (.leaf) (.cond (.seq [] none (.leaf) (.seq [] none (.leaf) (.seq [] none (.leaf) (.cond (.draw []) (.leaf))))) (.leaf))
def arith_Parse_1_1_c (F : Nat) : Ctr E := ⟨arith_Parse_1_1_s, fun (x : Int × Int × (List UInt8) × (List TExpr) × Int × Int) => arith_Parse_1_1 F x.1 x.2.1 x.2.2.1 x.2.2.2.1 x.2.2.2.2.1 x.2.2.2.2.2⟩
theorem arith_Parse_1_1_okR (F : Nat) : (arith_Parse_1_1_c F).GOk (CallsR Tryz.prog) := Ctr.okR_of (X := ⟨Tryz.prog, tyT, []⟩) (F := F) ⟨E_ok, okN, mixed⟩ (pl := arith_Parse_1_1_p) Tryz.func64 (by kernel_rfl) (fun x => by kernel_rfl)
/- jobshell/arith.Parse$1 -/
def arith_Parse_1_2 (F : Nat)  (a0 : Tfault) (a1 : Int) (a2 : Int) (a3 : List UInt8) (a4 : List TExpr) (a5 : Int) (a6 : Int) : Option (Int × Int × (List UInt8) × (List TExpr) × Int × Int) :=
 some ((TExpr.mk 0 0 [] []).fOp, (TExpr.mk 0 0 [] []).fN, (TExpr.mk 0 0 [] []).fName, (TExpr.mk 0 0 [] []).fKids, a0.fat, a0.ferr)
def arith_Parse_1_2_s : Shp := ⟨64, [.one (.iface 92 (.ext 2)), .one (.ptr 0 0), .one (.ptr 1 0), .one (.ptr 2 0)], [.cells 31 [.dat (.int .i64), .dat (.int .i64), .dat .str, .dat (.lst (.ext 1))], .cells 3 [.dat (.int .i64)], .cells 23 [.dat (.int .i64)]], [], ⟨.tup [], [some (.cells 31 [.dat (.int .i64), .dat (.int .i64), .dat .str, .dat (.lst (.ext 1))]), some (.cells 3 [.dat (.int .i64)]), some (.cells 23 [.dat (.int .i64)])], []⟩, none⟩
def arith_Parse_1_2_p : Plan := .seq [] none (.leaf) (.cond (.seq [] none (.leaf) (.seq [] none (.leaf) (.seq [] none (.leaf) (.cond (.drawP [3] [] [⟨[(0, true), (1, true), (2, true), (3, true), (4, false), (5, false)], none⟩]) (.leaf))))) (.leaf))
def arith_Parse_1_2_c (F : Nat) : Ctr E := ⟨arith_Parse_1_2_s, fun (x : Tfault × Int × Int × (List UInt8) × (List TExpr) × Int × Int) => arith_Parse_1_2 F x.1 x.2.1 x.2.2.1 x.2.2.2.1 x.2.2.2.2.1 x.2.2.2.2.2.1 x.2.2.2.2.2.2⟩
theorem arith_Parse_1_2_okR (F : Nat) : (arith_Parse_1_2_c F).GOk (CallsR Tryz.prog) := Ctr.okR_of (X := ⟨Tryz.prog, tyT, []⟩) (F := F) ⟨E_ok, okN, mixed⟩ (pl := arith_Parse_1_2_p) Tryz.func64 (by kernel_rfl) (fun x => by kernel_rfl)
/- jobshell/arith.Parse -/
def arith_Parse (F : Nat)  (a0 : List UInt8) : Option (TExpr × Int × Int) :=
 cond (decide (4096 < (a0.length : Int)))
 ((arith_Parse_1 F (Tfault.mk 0 3) 0 0 [] ([] : List TExpr) 0 0).bind fun x1 =>
 some ((TExpr.mk x1.1 x1.2.1 x1.2.2.1 x1.2.2.2.1), x1.2.2.2.2.1, x1.2.2.2.2.2))
 ((arith_scan F a0 0).bind fun x2 =>
 cond ((((Tparser.mk a0 x2).ftok).fkind) == 0)
 ((arith_Parse_1_1 F ((TExpr.mk 1 0 [] []).fOp) ((TExpr.mk 1 0 [] []).fN) ((TExpr.mk 1 0 [] []).fName) ((TExpr.mk 1 0 [] []).fKids) 0 0).bind fun _ =>
 some ((TExpr.mk ((TExpr.mk 1 0 [] []).fOp) ((TExpr.mk 1 0 [] []).fN) ((TExpr.mk 1 0 [] []).fName) ((TExpr.mk 1 0 [] []).fKids)), 0, 0))
 ((arith_parser_expression F ((Tparser.mk a0 x2).fs) (((Tparser.mk a0 x2).ftok).fkind) (((Tparser.mk a0 x2).ftok).fpos) (((Tparser.mk a0 x2).ftok).ftext)).bind (sm (fun x4 =>
 jj (σ := Unit) (R := TExpr × Int × Int) (cond (x4.2.2.1 != 0)
 ((arith_parser_reject F x4.2.1 x4.2.2.1 x4.2.2.2.1 x4.2.2.2.2).bind (sm (fun _ =>
 some (.inl ())) (fun x7 => retK ((arith_Parse_1_2 F x7 x4.1.fOp x4.1.fN x4.1.fName x4.1.fKids 0 0).bind fun x8 =>
 some ((TExpr.mk x8.1 x8.2.1 x8.2.2.1 x8.2.2.2.1), x8.2.2.2.2.1, x8.2.2.2.2.2)))))
 (some (.inl ()))) fun _ =>
 (arith_depth F (TExpr.mk x4.1.fOp x4.1.fN x4.1.fName x4.1.fKids)).bind fun x9 =>
 cond (decide (32 < x9))
 ((arith_Parse_1_2 F (Tfault.mk 0 5) x4.1.fOp x4.1.fN x4.1.fName x4.1.fKids 0 0).bind fun x10 =>
 some ((TExpr.mk x10.1 x10.2.1 x10.2.2.1 x10.2.2.2.1), x10.2.2.2.2.1, x10.2.2.2.2.2))
 ((arith_Parse_1_1 F ((TExpr.mk x4.1.fOp x4.1.fN x4.1.fName x4.1.fKids).fOp) ((TExpr.mk x4.1.fOp x4.1.fN x4.1.fName x4.1.fKids).fN) ((TExpr.mk x4.1.fOp x4.1.fN x4.1.fName x4.1.fKids).fName) ((TExpr.mk x4.1.fOp x4.1.fN x4.1.fName x4.1.fKids).fKids) 0 0).bind fun _ =>
 some ((TExpr.mk ((TExpr.mk x4.1.fOp x4.1.fN x4.1.fName x4.1.fKids).fOp) ((TExpr.mk x4.1.fOp x4.1.fN x4.1.fName x4.1.fKids).fN) ((TExpr.mk x4.1.fOp x4.1.fN x4.1.fName x4.1.fKids).fName) ((TExpr.mk x4.1.fOp x4.1.fN x4.1.fName x4.1.fKids).fKids)), 0, 0))) (fun x12 => (arith_Parse_1 F x12.1 0 0 [] ([] : List TExpr) 0 0).bind fun x13 =>
 some ((TExpr.mk x13.1 x13.2.1 x13.2.2.1 x13.2.2.2.1), x13.2.2.2.2.1, x13.2.2.2.2.2)))))
def arith_Parse_s : Shp := ⟨39, [.one (.dat .str)], [], [], ⟨.tup [.dat (.ext 1), .dat (.int .i64), .dat (.int .i64)], [], []⟩, none⟩
def arith_Parse_p : Plan := .seq [] none (.leaf) (.seq [] none (.leaf) (.seq [.cell 0 3 31 (.ext 1)] none (.leaf) (.seq [] none (.leaf) (.seq [] none (.leaf) (.seq [] none (.leaf) (.seq [] (some (⟨[], [none, none, none, none], [none]⟩, true)) (.leaf) (.leaf)))))))
def arith_Parse_c (F : Nat) : Ctr E := ⟨arith_Parse_s, fun (x : List UInt8) => arith_Parse F x⟩
theorem arith_Parse_ok (F : Nat) : (arith_Parse_c F).Ok Tryz.prog := Ctr.ok_ofD (X := ⟨Tryz.prog, tyT, [arith_scan_c F, arith_parser_expression_c F, arith_parser_reject_c F, arith_depth_c F]⟩) (F := F) ⟨E_ok, okC (arith_scan_ok F) (okC (arith_parser_expression_ok F) (okC (arith_parser_reject_ok F) (okC (arith_depth_ok F) (okN)))), mixed⟩ (D := ⟨[], [arith_Parse_1_c F, arith_Parse_1_1_c F, arith_Parse_1_2_c F]⟩) ⟨goN, goC (arith_Parse_1_okR F) (goC (arith_Parse_1_1_okR F) (goC (arith_Parse_1_2_okR F) (goN)))⟩ (pl := arith_Parse_p) Tryz.func39 (by kernel_rfl) (fun x => by kernel_rfl)
/- jobshell/arith.describe -/
def arith_describe (F : Nat)  (a0 : Int) : Option (Int × (List UInt8)) :=
 (cond (a0 == 1)
 (some (a0 == 1))
 (some (a0 == 2)) : Option Bool).bind fun x1 =>
 cond x1
 (some (14, []))
 (cond (a0 == 3)
 (some (13, ([45] : List UInt8)))
 (cond (a0 == 4)
 (some (13, ([43] : List UInt8)))
 (cond (a0 == 5)
 (some (13, ([33] : List UInt8)))
 (cond (a0 == 6)
 (some (13, ([126] : List UInt8)))
 (cond (a0 == 25)
 (some (2, ([63] : List UInt8)))
 (cond (a0 == 26)
 (some (1, ([61] : List UInt8)))
 ((arith_binaries F).bind fun x2 =>
 loopF (σ := Int) (R := Int × (List UInt8)) (fun rc4 x3 =>
 cond (decide (x3 < (x2.length : Int)))
 (rq ((decide (0 ≤ x3)) && (decide (x3 < (x2.length : Int)))) (cond (((x2.getD (Int.toNat x3) dTbinary).fop) == a0)
 (some ((x2.getD (Int.toNat x3) dTbinary).flevel, (x2.getD (Int.toNat x3) dTbinary).fsymbol))
 (rc4 (w64 (x3 + 1)))))
 (some (0, []))) F 0)))))))
def arith_describe_s : Shp := ⟨80, [.one (.dat (.int .i64))], [], [], ⟨.tup [.dat (.int .i64), .dat .str], [], []⟩, none⟩
def arith_describe_p : Plan := .seq [] none (.leaf) (.seq [] none (.seq [] none (.leaf) (.seq [] (some (⟨[(7, .one (.dat .bool))], [], []⟩, false)) (.leaf) (.leaf))) (.seq [] none (.seq [] none (.leaf) (.loop [] ⟨[(24, .one (.dat (.int .i64)))], [], []⟩ (.seq [] none (.leaf) (.seq [] none (.leaf) (.seq [] none (.seq [] none (.leaf) (.seq [] none (.leaf) (.cond (.seq [] none (.draw [⟨true, 6, none⟩]) (.leaf)) (.leaf)))) (.leaf)))))) (.leaf)))
def arith_describe_c (F : Nat) : Ctr E := ⟨arith_describe_s, fun (x : Int) => arith_describe F x⟩
theorem arith_describe_ok (F : Nat) : (arith_describe_c F).Ok Tryz.prog := Ctr.ok_of (X := ⟨Tryz.prog, tyT, [arith_binaries_c F]⟩) (F := F) ⟨E_ok, okC (arith_binaries_ok F) (okN), mixed⟩ (pl := arith_describe_p) Tryz.func80 (by kernel_rfl) (fun x => by kernel_rfl)
/- jobshell/arith.valid -/
def arith_valid_m (F : Nat) (r_arith_valid : TExpr → Int → Option Int) (a0 : TExpr) (a1 : Int) : Option Int :=
 cond (a1 == 32)
 (some 5)
 ((arith_describe F a0.fOp).bind fun x1 =>
 jj (σ := Int) (R := Int) (cond (x1.1 == 0)
 (some (.inr 1))
 ((cond (x1.1 == 1)
 (some (x1.1 == 1))
 (some (x1.1 == 13)) : Option Bool).bind fun x3 =>
 cond x3
 (some (.inl 1))
 (cond (x1.1 == 2)
 (some (.inl 3))
 (cond (x1.1 == 14)
 (some (.inl 0))
 (some (.inl 2)))))) fun x2 =>
 (cond (a0.fOp == 2)
 (some true)
 (some (a0.fOp == 26)) : Option Bool).bind fun x4 =>
 (cond (a0.fOp == 1)
 (some (decide (0 ≤ a0.fN)))
 (cond (a0.fOp == 26)
 ((cond (a0.fN == 0)
 (some true)
 ((arith_compound F a0.fN).bind fun x7 =>
 some x7) : Option Bool).bind fun x6 =>
 some x6)
 (some (a0.fN == 0))) : Option Bool).bind fun x5 =>
 (cond ((a0.fKids.length : Int) != x2)
 (some true)
 (some (!x5)) : Option Bool).bind fun x8 =>
 (cond x8
 (some true)
 (some (!(x4 == (!(a0.fName == []))))) : Option Bool).bind fun x9 =>
 cond x9
 (some 1)
 ((cond x4
 ((chars_Name F a0.fName).bind fun x11 =>
 some (!x11))
 (some false) : Option Bool).bind fun x10 =>
 cond x10
 (some 10)
 (loopF (σ := Int) (R := Int) (fun rc13 x12 =>
 cond (decide (x12 < (a0.fKids.length : Int)))
 (rq ((decide (0 ≤ x12)) && (decide (x12 < (a0.fKids.length : Int)))) ((r_arith_valid (TExpr.mk ((a0.fKids.getD (Int.toNat x12) dTExpr).fOp) ((a0.fKids.getD (Int.toNat x12) dTExpr).fN) ((a0.fKids.getD (Int.toNat x12) dTExpr).fName) ((a0.fKids.getD (Int.toNat x12) dTExpr).fKids)) (w64 (a1 + 1))).bind fun x14 =>
 cond (x14 != 0)
 (some x14)
 (rc13 (w64 (x12 + 1)))))
 (some 0)) F 0)))
def arith_valid_s : Shp := ⟨48, [.one (.dat (.ext 1)), .one (.dat (.int .i64))], [], [], ⟨.one (.dat (.int .i64)), [], []⟩, none⟩
def arith_valid_p : Plan := .seq [] none (.leaf) (.seq [] none (.leaf) (.seq [] none (.leaf) (.seq [] none (.leaf) (.seq [] (some (⟨[(7, .one (.dat (.int .i64)))], [none], []⟩, true)) (.seq [] none (.leaf) (.seq [] none (.leaf) (.cond (.leaf) (.seq [] (some (⟨[(24, .one (.dat .bool))], [none], []⟩, false)) (.leaf) (.leaf))))) (.seq [] none (.region [(8, ⟨[(38, .one (.dat .bool))], [none], []⟩, false)]) (.seq [] none (.leaf) (.seq [] (some (⟨[(9, .one (.dat .bool))], [none], []⟩, false)) (.seq [] none (.leaf) (.seq [] none (.leaf) (.cond (.leaf) (.seq [] none (.leaf) (.cond (.region [(8, ⟨[(58, .one (.dat .bool))], [none], []⟩, false)]) (.leaf)))))) (.seq [] none (.seq [] none (.region [(9, ⟨[(67, .one (.dat .bool))], [none], []⟩, false), (7, ⟨[(74, .one (.dat .bool))], [none], []⟩, false)]) (.leaf)) (.seq [] none (.seq [] none (.region [(7, ⟨[(81, .one (.dat .bool))], [none], []⟩, false)]) (.leaf)) (.seq [] none (.seq [] none (.leaf) (.loop [] ⟨[(85, .one (.dat (.int .i64)))], [none], []⟩ (.leaf))) (.leaf)))))))))))
def arith_valid_n (F : Nat) : Nat → TExpr → Int → Option Int
  | 0 => fun _ _ => none
  | n + 1 => arith_valid_m F (arith_valid_n F n)
def arith_valid (F : Nat) (a0 : TExpr) (a1 : Int) : Option Int := arith_valid_n F F a0 a1
def arith_valid_cn (F n : Nat) : Ctr E := ⟨arith_valid_s, fun (x : TExpr × Int) => arith_valid_n F n x.1 x.2⟩
def arith_valid_c (F : Nat) : Ctr E := ⟨arith_valid_s, fun (x : TExpr × Int) => arith_valid F x.1 x.2⟩
theorem arith_valid_st (F n : Nat) (h : (arith_valid_cn F n).Ok Tryz.prog) : (arith_valid_cn F (n + 1)).Ok Tryz.prog := Ctr.ok_of (X := ⟨Tryz.prog, tyT, [arith_describe_c F, arith_compound_c F, chars_Name_c F, arith_valid_cn F n]⟩) (F := F) ⟨E_ok, okC (arith_describe_ok F) (okC (arith_compound_ok F) (okC (chars_Name_ok F) (okC h (okN)))), mixed⟩ (pl := arith_valid_p) Tryz.func48 (by kernel_rfl) (fun x => by kernel_rfl)
theorem arith_valid_okn (F : Nat) : ∀ n, (arith_valid_cn F n).Ok Tryz.prog
  | 0 => (fun x y h => nomatch (show none = some y from h))
  | n + 1 => by
    have h := arith_valid_okn F n
    exact arith_valid_st F n h
theorem arith_valid_ok (F : Nat) : (arith_valid_c F).Ok Tryz.prog := (arith_valid_okn F F)
/- jobshell/arith.Valid -/
def arith_Valid (F : Nat)  (a0 : TExpr) : Option Int :=
 (arith_valid F (TExpr.mk a0.fOp a0.fN a0.fName a0.fKids) 0).bind fun x1 =>
 some x1
def arith_Valid_s : Shp := ⟨30, [.one (.dat (.ext 1))], [], [], ⟨.one (.dat (.int .i64)), [], []⟩, none⟩
def arith_Valid_p : Plan := .leaf
def arith_Valid_c (F : Nat) : Ctr E := ⟨arith_Valid_s, fun (x : TExpr) => arith_Valid F x⟩
theorem arith_Valid_ok (F : Nat) : (arith_Valid_c F).Ok Tryz.prog := Ctr.ok_of (X := ⟨Tryz.prog, tyT, [arith_valid_c F]⟩) (F := F) ⟨E_ok, okC (arith_valid_ok F) (okN), mixed⟩ (pl := arith_Valid_p) Tryz.func30 (by kernel_rfl) (fun x => by kernel_rfl)
/- jobshell/calc.Eval$1 -/
def calc_Eval_1 (F : Nat)  (a0 : List UInt8) (a1 : List UInt8) (a2 : List ((List UInt8) × (List UInt8))) : Option (List ((List UInt8) × (List UInt8))) :=
 some (mset keq a2 a0 a1)
def calc_Eval_1_s : Shp := ⟨31, [.one (.dat .str), .one (.dat .str), .one (.ptr 0 0)], [.cells 61 [.mref 1], .map .str .str], [], ⟨.tup [], [none, some (.map .str .str)], []⟩, none⟩
def calc_Eval_1_p : Plan := .leaf
def calc_Eval_1_c (F : Nat) : Ctr E := ⟨calc_Eval_1_s, fun (x : (List UInt8) × (List UInt8) × (List ((List UInt8) × (List UInt8)))) => calc_Eval_1 F x.1 x.2.1 x.2.2⟩
theorem calc_Eval_1_ok (F : Nat) : (calc_Eval_1_c F).Ok Tryz.prog := Ctr.ok_of (X := ⟨Tryz.prog, tyT, []⟩) (F := F) ⟨E_ok, okN, mixed⟩ (pl := calc_Eval_1_p) Tryz.func31 (by kernel_rfl) (fun x => by kernel_rfl)
/- jobshell/calc.Eval$2 -/
def calc_Eval_2 (F : Nat)  (a0 : List UInt8) (a1 : List ((List UInt8) × (List UInt8))) : Option (List UInt8) :=
 some (mget keq a1 a0 [])
def calc_Eval_2_s : Shp := ⟨32, [.one (.dat .str), .one (.ptr 0 0)], [.cells 61 [.mref 1], .map .str .str], [], ⟨.one (.dat .str), [none, none], []⟩, none⟩
def calc_Eval_2_p : Plan := .leaf
def calc_Eval_2_c (F : Nat) : Ctr E := ⟨calc_Eval_2_s, fun (x : (List UInt8) × (List ((List UInt8) × (List UInt8)))) => calc_Eval_2 F x.1 x.2⟩
theorem calc_Eval_2_ok (F : Nat) : (calc_Eval_2_c F).Ok Tryz.prog := Ctr.ok_of (X := ⟨Tryz.prog, tyT, []⟩) (F := F) ⟨E_ok, okN, mixed⟩ (pl := calc_Eval_2_p) Tryz.func32 (by kernel_rfl) (fun x => by kernel_rfl)
/- jobshell/calc.digit -/
def calc_digit (F : Nat)  (a0 : Int) : Option Int :=
 (cond (decide (48 ≤ a0))
 (some (decide (a0 ≤ 57)))
 (some false) : Option Bool).bind fun x1 =>
 cond x1
 (some (IntKind.wrap .u64 (IntKind.wrap .u8 (a0 - 48))))
 ((cond (decide (97 ≤ a0))
 (some (decide (a0 ≤ 102)))
 (some false) : Option Bool).bind fun x2 =>
 cond x2
 (some (IntKind.wrap .u64 ((IntKind.wrap .u64 (IntKind.wrap .u8 (a0 - 97))) + 10)))
 ((cond (decide (65 ≤ a0))
 (some (decide (a0 ≤ 70)))
 (some false) : Option Bool).bind fun x3 =>
 cond x3
 (some (IntKind.wrap .u64 ((IntKind.wrap .u64 (IntKind.wrap .u8 (a0 - 65))) + 10)))
 (some 16)))
def calc_digit_s : Shp := ⟨46, [.one (.dat (.int .u8))], [], [], ⟨.one (.dat (.int .u64)), [], []⟩, none⟩
def calc_digit_p : Plan := .seq [] none (.leaf) (.seq [] none (.seq [] none (.region [(6, ⟨[(9, .one (.dat .bool))], [], []⟩, false)]) (.cond (.leaf) (.seq [] none (.region [(6, ⟨[(19, .one (.dat .bool))], [], []⟩, false)]) (.cond (.leaf) (.seq [] none (.region [(6, ⟨[(30, .one (.dat .bool))], [], []⟩, false)]) (.leaf)))))) (.leaf))
def calc_digit_c (F : Nat) : Ctr E := ⟨calc_digit_s, fun (x : Int) => calc_digit F x⟩
theorem calc_digit_ok (F : Nat) : (calc_digit_c F).Ok Tryz.prog := Ctr.ok_of (X := ⟨Tryz.prog, tyT, []⟩) (F := F) ⟨E_ok, okN, mixed⟩ (pl := calc_digit_p) Tryz.func46 (by kernel_rfl) (fun x => by kernel_rfl)
/- jobshell/calc.magnitude -/
def calc_magnitude (F : Nat)  (a0 : List UInt8) : Option (Int × Int) :=
 (((strings_HasPrefix F a0 ([48, 120] : List UInt8)).bind fun x3 =>
 cond x3
 (some true)
 ((strings_HasPrefix F a0 ([48, 88] : List UInt8)).bind fun x4 =>
 some x4) : Option Bool).bind fun x2 =>
 cond x2
 (rq ((decide (2 ≤ (a0.length : Int))) && (decide ((a0.length : Int) ≤ (a0.length : Int)))) (some (16, sl a0 2 (a0.length : Int))))
 ((strings_HasPrefix F a0 ([48] : List UInt8)).bind fun x5 =>
 cond x5
 (some (8, a0))
 (some (10, a0))) : Option (Int × (List UInt8))).bind fun x1 =>
 cond (x1.2 == [])
 (some (0, 6))
 (loopF (σ := Int × Bool × Int) (R := Int × Int) (fun rc7 x6 =>
 cond (decide (x6.2.2 < (x1.2.length : Int)))
 (rq ((decide (0 ≤ x6.2.2)) && (decide (x6.2.2 < (x1.2.length : Int)))) ((calc_digit F ((x1.2.getD (Int.toNat x6.2.2) 0).toNat : Int)).bind fun x8 =>
 cond (decide (x1.1 ≤ x8))
 (some (0, 6))
 ((cond x6.2.1
 (some true)
 (rq (!(x1.1 == 0)) (some (decide (IntKind.wrap .u64 (Int.tdiv (IntKind.wrap .u64 (9223372036854775808 - x8)) x1.1) < x6.1)))) : Option Bool).bind fun x9 =>
 cond x9
 (rc7 (x6.1, true, w64 (x6.2.2 + 1)))
 (rc7 (IntKind.wrap .u64 ((IntKind.wrap .u64 (x6.1 * x1.1)) + x8), x6.2.1, w64 (x6.2.2 + 1))))))
 (cond x6.2.1
 (some (0, 14))
 (some (x6.1, 0)))) F (0, false, 0))
def calc_magnitude_s : Shp := ⟨27, [.one (.dat .str)], [], [], ⟨.tup [.dat (.int .u64), .dat (.int .i64)], [], []⟩, none⟩
def calc_magnitude_p : Plan := .seq [] none (.leaf) (.seq [] none (.leaf) (.seq [] (some (⟨[(4, .one (.dat (.int .u64))), (5, .one (.dat .str))], [], []⟩, false)) (.seq [] none (.region [(6, ⟨[(17, .one (.dat .bool))], [], []⟩, false)]) (.cond (.draw [⟨true, 4, none⟩]) (.leaf))) (.seq [] none (.leaf) (.seq [] none (.leaf) (.seq [] none (.seq [] none (.leaf) (.loop [] ⟨[(6, .one (.dat (.int .u64))), (7, .one (.dat .bool)), (8, .one (.dat (.int .i64)))], [], []⟩ (.seq [] none (.leaf) (.seq [] none (.seq [] none (.leaf) (.seq [] none (.leaf) (.seq [] none (.seq [] none (.region [(9, ⟨[(46, .one (.dat .bool))], [], []⟩, false)]) (.leaf)) (.leaf)))) (.leaf))))) (.leaf))))))
def calc_magnitude_c (F : Nat) : Ctr E := ⟨calc_magnitude_s, fun (x : List UInt8) => calc_magnitude F x⟩
theorem calc_magnitude_ok (F : Nat) : (calc_magnitude_c F).Ok Tryz.prog := Ctr.ok_of (X := ⟨Tryz.prog, tyT, [strings_HasPrefix_c F, calc_digit_c F]⟩) (F := F) ⟨E_ok, okC (strings_HasPrefix_ok F) (okC (calc_digit_ok F) (okN)), mixed⟩ (pl := calc_magnitude_p) Tryz.func27 (by kernel_rfl) (fun x => by kernel_rfl)
/- jobshell/calc.integer -/
def calc_integer (F : Nat)  (a0 : List UInt8) : Option (Int × Bool) :=
 cond (a0 == [])
 (some (0, true))
 (rq (decide (0 < (a0.length : Int))) (((cond (((a0.getD 0 0).toNat : Int) == 45)
 (some true)
 (rq (decide (0 < (a0.length : Int))) (some (((a0.getD 0 0).toNat : Int) == 43))) : Option Bool).bind fun x2 =>
 cond x2
 (rq ((decide (1 ≤ (a0.length : Int))) && (decide ((a0.length : Int) ≤ (a0.length : Int)))) (some (sl a0 1 (a0.length : Int))))
 (some a0) : Option (List UInt8)).bind fun x1 =>
 (calc_magnitude F x1).bind fun x3 =>
 (cond (x3.2 != 0)
 (some true)
 (cond (x3.1 == 9223372036854775808)
 (some (!(((a0.getD 0 0).toNat : Int) == 45)))
 (some false)) : Option Bool).bind fun x4 =>
 cond x4
 (some (0, false))
 (cond (((a0.getD 0 0).toNat : Int) == 45)
 (some (w64 (IntKind.wrap .u64 (0 - x3.1)), true))
 (some (w64 x3.1, true)))))
def calc_integer_s : Shp := ⟨83, [.one (.dat .str)], [], [], ⟨.tup [.dat (.int .i64), .dat .bool], [], []⟩, none⟩
def calc_integer_p : Plan := .seq [] none (.leaf) (.seq [] none (.leaf) (.seq [] none (.leaf) (.seq [] (some (⟨[(0, .one (.dat .str))], [], []⟩, false)) (.seq [] none (.region [(6, ⟨[(17, .one (.dat .bool))], [], []⟩, false)]) (.leaf)) (.seq [] none (.leaf) (.seq [] none (.seq [] none (.region [(10, ⟨[(34, .one (.dat .bool))], [], []⟩, false)]) (.leaf)) (.leaf))))))
def calc_integer_c (F : Nat) : Ctr E := ⟨calc_integer_s, fun (x : List UInt8) => calc_integer F x⟩
theorem calc_integer_ok (F : Nat) : (calc_integer_c F).Ok Tryz.prog := Ctr.ok_of (X := ⟨Tryz.prog, tyT, [calc_magnitude_c F]⟩) (F := F) ⟨E_ok, okC (calc_magnitude_ok F) (okN), mixed⟩ (pl := calc_integer_p) Tryz.func83 (by kernel_rfl) (fun x => by kernel_rfl)
/- (jobshell/calc.evaluator).variable -/
def calc_evaluator_variable (F : Nat)  (a0 : List UInt8) (a1 : List ((List UInt8) × (List UInt8))) : Option (Int × Int) :=
 (calc_Eval_2 F a0 a1).bind fun x1 =>
 (calc_integer F x1).bind fun x2 =>
 cond (!x2.2)
 (some (0, 1))
 (some (x2.1, 0))
def calc_evaluator_variable_s : Shp := ⟨49, [.agg [.func 32 [(0, 0)], .func 31 [(0, 0)]], .one (.dat .str)], [.cells 61 [.mref 1], .map .str .str], [], ⟨.tup [.dat (.int .i64), .dat (.int .i64)], [none, none], []⟩, none⟩
def calc_evaluator_variable_p : Plan := .leaf
def calc_evaluator_variable_c (F : Nat) : Ctr E := ⟨calc_evaluator_variable_s, fun (x : (List UInt8) × (List ((List UInt8) × (List UInt8)))) => calc_evaluator_variable F x.1 x.2⟩
theorem calc_evaluator_variable_ok (F : Nat) : (calc_evaluator_variable_c F).Ok Tryz.prog := Ctr.ok_of (X := ⟨Tryz.prog, tyT, [calc_Eval_2_c F, calc_integer_c F]⟩) (F := F) ⟨E_ok, okC (calc_Eval_2_ok F) (okC (calc_integer_ok F) (okN)), mixed⟩ (pl := calc_evaluator_variable_p) Tryz.func49 (by kernel_rfl) (fun x => by kernel_rfl)
/- jobshell/calc.truth -/
def calc_truth (F : Nat)  (a0 : Bool) : Option Int :=
 cond a0
 (some 1)
 (some 0)
def calc_truth_s : Shp := ⟨85, [.one (.dat .bool)], [], [], ⟨.one (.dat (.int .i64)), [], []⟩, none⟩
def calc_truth_p : Plan := .leaf
def calc_truth_c (F : Nat) : Ctr E := ⟨calc_truth_s, fun (x : Bool) => calc_truth F x⟩
theorem calc_truth_ok (F : Nat) : (calc_truth_c F).Ok Tryz.prog := Ctr.ok_of (X := ⟨Tryz.prog, tyT, []⟩) (F := F) ⟨E_ok, okN, mixed⟩ (pl := calc_truth_p) Tryz.func85 (by kernel_rfl) (fun x => by kernel_rfl)
/- jobshell/calc.compare -/
def calc_compare (F : Nat)  (a0 : Int) (a1 : Int) (a2 : Int) : Option Bool :=
 cond (a0 == 14)
 (some (decide (a1 < a2)))
 (cond (a0 == 15)
 (some (decide (a2 < a1)))
 (cond (a0 == 16)
 (some (decide (a1 ≤ a2)))
 (cond (a0 == 17)
 (some (decide (a2 ≤ a1)))
 (cond (a0 == 18)
 (some (a1 == a2))
 (some (a1 != a2))))))
def calc_compare_s : Shp := ⟨86, [.one (.dat (.int .i64)), .one (.dat (.int .i64)), .one (.dat (.int .i64))], [], [], ⟨.one (.dat .bool), [], []⟩, none⟩
def calc_compare_p : Plan := .leaf
def calc_compare_c (F : Nat) : Ctr E := ⟨calc_compare_s, fun (x : Int × Int × Int) => calc_compare F x.1 x.2.1 x.2.2⟩
theorem calc_compare_ok (F : Nat) : (calc_compare_c F).Ok Tryz.prog := Ctr.ok_of (X := ⟨Tryz.prog, tyT, []⟩) (F := F) ⟨E_ok, okN, mixed⟩ (pl := calc_compare_p) Tryz.func86 (by kernel_rfl) (fun x => by kernel_rfl)
/- jobshell/calc.binary -/
def calc_binary (F : Nat)  (a0 : Int) (a1 : Int) (a2 : Int) : Option (Int × Int) :=
 cond (a0 == 7)
 (some (w64 (a1 * a2), 0))
 ((cond (a0 == 8)
 (some (a0 == 8))
 (some (a0 == 9)) : Option Bool).bind fun x1 =>
 cond x1
 (cond (a2 == 0)
 (some (0, 13))
 (cond (a0 == 8)
 (rq (!(a2 == 0)) (some (w64 (Int.tdiv a1 a2), 0)))
 (rq (!(a2 == 0)) (some (Int.tmod a1 a2, 0)))))
 (cond (a0 == 10)
 (some (w64 (a1 + a2), 0))
 (cond (a0 == 11)
 (some (w64 (a1 - a2), 0))
 (cond (a0 == 12)
 (rq (decide (0 ≤ bAnd .i64 a2 63)) (some (bShl .i64 a1 (bAnd .i64 a2 63), 0)))
 (cond (a0 == 13)
 (rq (decide (0 ≤ bAnd .i64 a2 63)) (some (bShr .i64 a1 (bAnd .i64 a2 63), 0)))
 (cond (a0 == 20)
 (some (bAnd .i64 a1 a2, 0))
 (cond (a0 == 21)
 (some (bXor .i64 a1 a2, 0))
 (cond (a0 == 22)
 (some (bOr .i64 a1 a2, 0))
 (cond (a0 == 23)
 ((cond (a1 != 0)
 (some (a2 != 0))
 (some false) : Option Bool).bind fun x2 =>
 (calc_truth F x2).bind fun x3 =>
 some (x3, 0))
 (cond (a0 == 24)
 ((cond (a1 != 0)
 (some true)
 (some (a2 != 0)) : Option Bool).bind fun x4 =>
 (calc_truth F x4).bind fun x5 =>
 some (x5, 0))
 ((calc_compare F a0 a1 a2).bind fun x6 =>
 (calc_truth F x6).bind fun x7 =>
 some (x7, 0))))))))))))
def calc_binary_s : Shp := ⟨52, [.one (.dat (.int .i64)), .one (.dat (.int .i64)), .one (.dat (.int .i64))], [], [], ⟨.tup [.dat (.int .i64), .dat (.int .i64)], [], []⟩, none⟩
def calc_binary_p : Plan := .seq [] none (.leaf) (.seq [] none (.seq [] none (.leaf) (.seq [] none (.leaf) (.cond (.leaf) (.seq [] (some (⟨[(14, .one (.dat .bool))], [], []⟩, false)) (.leaf) (.cond (.leaf) (.seq [] none (.leaf) (.cond (.leaf) (.seq [] none (.leaf) (.cond (.leaf) (.seq [] none (.leaf) (.cond (.leaf) (.seq [] none (.leaf) (.cond (.leaf) (.seq [] none (.leaf) (.cond (.leaf) (.seq [] none (.leaf) (.cond (.leaf) (.seq [] none (.leaf) (.cond (.leaf) (.seq [] none (.leaf) (.cond (.seq [] none (.region [(6, ⟨[(71, .one (.dat .bool))], [], []⟩, false)]) (.leaf)) (.seq [] none (.leaf) (.cond (.seq [] none (.region [(6, ⟨[(80, .one (.dat .bool))], [], []⟩, false)]) (.leaf)) (.leaf)))))))))))))))))))))))) (.leaf))
def calc_binary_c (F : Nat) : Ctr E := ⟨calc_binary_s, fun (x : Int × Int × Int) => calc_binary F x.1 x.2.1 x.2.2⟩
theorem calc_binary_ok (F : Nat) : (calc_binary_c F).Ok Tryz.prog := Ctr.ok_of (X := ⟨Tryz.prog, tyT, [calc_truth_c F, calc_compare_c F]⟩) (F := F) ⟨E_ok, okC (calc_truth_ok F) (okC (calc_compare_ok F) (okN)), mixed⟩ (pl := calc_binary_p) Tryz.func52 (by kernel_rfl) (fun x => by kernel_rfl)
/- jobshell/calc.unary -/
def calc_unary (F : Nat)  (a0 : Int) (a1 : Int) : Option Int :=
 cond (a0 == 3)
 (some (w64 (0 - a1)))
 (cond (a0 == 5)
 ((calc_truth F (a1 == 0)).bind fun x1 =>
 some x1)
 (cond (a0 == 6)
 (some (bNot .i64 a1))
 (some a1)))
def calc_unary_s : Shp := ⟨51, [.one (.dat (.int .i64)), .one (.dat (.int .i64))], [], [], ⟨.one (.dat (.int .i64)), [], []⟩, none⟩
def calc_unary_p : Plan := .leaf
def calc_unary_c (F : Nat) : Ctr E := ⟨calc_unary_s, fun (x : Int × Int) => calc_unary F x.1 x.2⟩
theorem calc_unary_ok (F : Nat) : (calc_unary_c F).Ok Tryz.prog := Ctr.ok_of (X := ⟨Tryz.prog, tyT, [calc_truth_c F]⟩) (F := F) ⟨E_ok, okC (calc_truth_ok F) (okN), mixed⟩ (pl := calc_unary_p) Tryz.func51 (by kernel_rfl) (fun x => by kernel_rfl)
/- (jobshell/calc.evaluator).value -/
def calc_evaluator_value_m (F : Nat) (r_calc_evaluator_value : TExpr → (List ((List UInt8) × (List UInt8))) → Option (Int × Int × (List ((List UInt8) × (List UInt8))))) (r_calc_evaluator_assign : TExpr → (List ((List UInt8) × (List UInt8))) → Option (Int × Int × (List ((List UInt8) × (List UInt8))))) (a0 : TExpr) (a1 : List ((List UInt8) × (List UInt8))) : Option (Int × Int × (List ((List UInt8) × (List UInt8)))) :=
 cond (a0.fOp == 1)
 (some (a0.fN, 0, a1))
 (cond (a0.fOp == 2)
 ((calc_evaluator_variable F a0.fName a1).bind fun x1 =>
 some (x1.1, x1.2, a1))
 (cond (a0.fOp == 26)
 ((r_calc_evaluator_assign (TExpr.mk a0.fOp a0.fN a0.fName a0.fKids) a1).bind fun x2 =>
 some (x2.1, x2.2.1, x2.2.2))
 (rq (decide (0 < (a0.fKids.length : Int))) ((r_calc_evaluator_value (a0.fKids.getD 0 dTExpr) a1).bind fun x3 =>
 cond (x3.2.1 != 0)
 (some (0, x3.2.1, x3.2.2))
 (jj (σ := Unit) (R := Int × Int × (List ((List UInt8) × (List UInt8)))) ((cond (a0.fOp == 3)
 (some (a0.fOp == 3))
 (cond (a0.fOp == 4)
 (some (a0.fOp == 4))
 (cond (a0.fOp == 5)
 (some (a0.fOp == 5))
 (some (a0.fOp == 6)))) : Option Bool).bind fun x5 =>
 cond x5
 ((calc_unary F a0.fOp x3.1).bind fun x6 =>
 some (.inr (x6, 0, x3.2.2)))
 (cond (a0.fOp == 25)
 (cond (x3.1 != 0)
 (rq (decide (1 < (a0.fKids.length : Int))) ((r_calc_evaluator_value (a0.fKids.getD 1 dTExpr) x3.2.2).bind fun x7 =>
 some (.inr (x7.1, x7.2.1, x7.2.2))))
 (rq (decide (2 < (a0.fKids.length : Int))) ((r_calc_evaluator_value (a0.fKids.getD 2 dTExpr) x3.2.2).bind fun x8 =>
 some (.inr (x8.1, x8.2.1, x8.2.2)))))
 (cond (a0.fOp == 23)
 (cond (x3.1 == 0)
 (some (.inr (0, 0, x3.2.2)))
 (some (.inl ())))
 (cond (a0.fOp == 24)
 (cond (x3.1 != 0)
 (some (.inr (1, 0, x3.2.2)))
 (some (.inl ())))
 (some (.inl ())))))) fun _ =>
 rq (decide (1 < (a0.fKids.length : Int))) ((r_calc_evaluator_value (a0.fKids.getD 1 dTExpr) x3.2.2).bind fun x9 =>
 cond (x9.2.1 != 0)
 (some (0, x9.2.1, x9.2.2))
 ((calc_binary F a0.fOp x3.1 x9.1).bind fun x10 =>
 some (x10.1, x10.2, x9.2.2))))))))
def calc_evaluator_value_s : Shp := ⟨33, [.agg [.func 32 [(0, 0)], .func 31 [(0, 0)]], .one (.dat (.ext 1))], [.cells 61 [.mref 1], .map .str .str], [], ⟨.tup [.dat (.int .i64), .dat (.int .i64)], [none, some (.map .str .str)], []⟩, none⟩
def calc_evaluator_value_p : Plan := .seq [] none (.leaf) (.seq [] none (.leaf) (.seq [] none (.draw [⟨true, 5, none⟩, ⟨false, 2, none⟩, ⟨true, 4, none⟩]) (.seq [] none (.leaf) (.seq [] (some (⟨[], [none, none, none, none], []⟩, true)) (.seq [] none (.leaf) (.seq [] (some (⟨[(44, .one (.dat .bool))], [none, none, none, none], []⟩, false)) (.leaf) (.cond (.leaf) (.seq [] none (.leaf) (.cond (.seq [] none (.seq [] none (.leaf) (.cond (.seq [] none (.draw [⟨true, 5, none⟩, ⟨false, 1, none⟩, ⟨true, 4, none⟩]) (.leaf)) (.leaf))) (.seq [] none (.draw [⟨true, 5, none⟩, ⟨false, 1, none⟩, ⟨true, 4, none⟩]) (.leaf))) (.leaf)))))) (.seq [] none (.draw [⟨true, 5, none⟩, ⟨false, 2, none⟩, ⟨true, 4, none⟩]) (.leaf))))))
/- (jobshell/calc.evaluator).assign -/
def calc_evaluator_assign_m (F : Nat) (r_calc_evaluator_value : TExpr → (List ((List UInt8) × (List UInt8))) → Option (Int × Int × (List ((List UInt8) × (List UInt8))))) (r_calc_evaluator_assign : TExpr → (List ((List UInt8) × (List UInt8))) → Option (Int × Int × (List ((List UInt8) × (List UInt8))))) (a0 : TExpr) (a1 : List ((List UInt8) × (List UInt8))) : Option (Int × Int × (List ((List UInt8) × (List UInt8)))) :=
 rq (decide (0 < (a0.fKids.length : Int))) ((r_calc_evaluator_value (a0.fKids.getD 0 dTExpr) a1).bind fun x1 =>
 cond (x1.2.1 != 0)
 (some (0, x1.2.1, x1.2.2))
 (jj (σ := Int) (R := Int × Int × (List ((List UInt8) × (List UInt8)))) (cond (a0.fN != 0)
 ((calc_evaluator_variable F a0.fName x1.2.2).bind fun x3 =>
 cond (x3.2 != 0)
 (some (.inr (0, x3.2, x1.2.2)))
 ((calc_binary F a0.fN x3.1 x1.1).bind fun x4 =>
 cond (x4.2 != 0)
 (some (.inr (0, x4.2, x1.2.2)))
 (some (.inl x4.1))))
 (some (.inl x1.1))) fun x2 =>
 (itoaF F x2).bind fun x5 =>
 (calc_Eval_1 F a0.fName x5 x1.2.2).bind fun x6 =>
 some (x2, 0, x6)))
def calc_evaluator_assign_s : Shp := ⟨50, [.agg [.func 32 [(0, 0)], .func 31 [(0, 0)]], .one (.dat (.ext 1))], [.cells 61 [.mref 1], .map .str .str], [], ⟨.tup [.dat (.int .i64), .dat (.int .i64)], [none, some (.map .str .str)], []⟩, none⟩
def calc_evaluator_assign_p : Plan := .seq [] none (.leaf) (.seq [] none (.draw [⟨true, 5, none⟩, ⟨false, 2, none⟩, ⟨true, 4, none⟩]) (.seq [] none (.leaf) (.seq [] (some (⟨[(6, .one (.dat (.int .i64)))], [none, none, none, none], []⟩, true)) (.leaf) (.seq [] none (.drawP [2, 3] [] [⟨[(0, true), (1, true), (2, true), (3, true), (4, true), (5, false), (6, false)], none⟩]) (.leaf)))))
def calc_evaluator_value_G (F : Nat) : Nat → (TExpr → (List ((List UInt8) × (List UInt8))) → Option (Int × Int × (List ((List UInt8) × (List UInt8))))) × (TExpr → (List ((List UInt8) × (List UInt8))) → Option (Int × Int × (List ((List UInt8) × (List UInt8)))))
  | 0 => (fun _ _ => none, fun _ _ => none)
  | n + 1 => (calc_evaluator_value_m F (calc_evaluator_value_G F n).1 (calc_evaluator_value_G F n).2, calc_evaluator_assign_m F (calc_evaluator_value_G F n).1 (calc_evaluator_value_G F n).2)
def calc_evaluator_value_n (F n : Nat) : TExpr → (List ((List UInt8) × (List UInt8))) → Option (Int × Int × (List ((List UInt8) × (List UInt8)))) := (calc_evaluator_value_G F n).1
def calc_evaluator_assign_n (F n : Nat) : TExpr → (List ((List UInt8) × (List UInt8))) → Option (Int × Int × (List ((List UInt8) × (List UInt8)))) := (calc_evaluator_value_G F n).2
def calc_evaluator_value (F : Nat) (a0 : TExpr) (a1 : List ((List UInt8) × (List UInt8))) : Option (Int × Int × (List ((List UInt8) × (List UInt8)))) := calc_evaluator_value_n F F a0 a1
def calc_evaluator_assign (F : Nat) (a0 : TExpr) (a1 : List ((List UInt8) × (List UInt8))) : Option (Int × Int × (List ((List UInt8) × (List UInt8)))) := calc_evaluator_assign_n F F a0 a1
def calc_evaluator_value_cn (F n : Nat) : Ctr E := ⟨calc_evaluator_value_s, fun (x : TExpr × (List ((List UInt8) × (List UInt8)))) => calc_evaluator_value_n F n x.1 x.2⟩
def calc_evaluator_value_c (F : Nat) : Ctr E := ⟨calc_evaluator_value_s, fun (x : TExpr × (List ((List UInt8) × (List UInt8)))) => calc_evaluator_value F x.1 x.2⟩
def calc_evaluator_assign_cn (F n : Nat) : Ctr E := ⟨calc_evaluator_assign_s, fun (x : TExpr × (List ((List UInt8) × (List UInt8)))) => calc_evaluator_assign_n F n x.1 x.2⟩
def calc_evaluator_assign_c (F : Nat) : Ctr E := ⟨calc_evaluator_assign_s, fun (x : TExpr × (List ((List UInt8) × (List UInt8)))) => calc_evaluator_assign F x.1 x.2⟩
theorem calc_evaluator_value_st (F n : Nat) (h : (calc_evaluator_value_cn F n).Ok Tryz.prog ∧ (calc_evaluator_assign_cn F n).Ok Tryz.prog) : (calc_evaluator_value_cn F (n + 1)).Ok Tryz.prog := Ctr.ok_of (X := ⟨Tryz.prog, tyT, [calc_evaluator_variable_c F, calc_evaluator_assign_cn F n, calc_evaluator_value_cn F n, calc_unary_c F, calc_binary_c F]⟩) (F := F) ⟨E_ok, okC (calc_evaluator_variable_ok F) (okC h.2 (okC h.1 (okC (calc_unary_ok F) (okC (calc_binary_ok F) (okN))))), mixed⟩ (pl := calc_evaluator_value_p) Tryz.func33 (by kernel_rfl) (fun x => by kernel_rfl)
theorem calc_evaluator_assign_st (F n : Nat) (h : (calc_evaluator_value_cn F n).Ok Tryz.prog ∧ (calc_evaluator_assign_cn F n).Ok Tryz.prog) : (calc_evaluator_assign_cn F (n + 1)).Ok Tryz.prog := Ctr.ok_of (X := ⟨Tryz.prog, tyT, [calc_evaluator_value_cn F n, calc_evaluator_variable_c F, calc_binary_c F, strconvItoa_c F, calc_Eval_1_c F]⟩) (F := F) ⟨E_ok, okC h.1 (okC (calc_evaluator_variable_ok F) (okC (calc_binary_ok F) (okC (strconvItoa_ok F) (okC (calc_Eval_1_ok F) (okN))))), mixed⟩ (pl := calc_evaluator_assign_p) Tryz.func50 (by kernel_rfl) (fun x => by kernel_rfl)
theorem calc_evaluator_value_okn (F : Nat) : ∀ n, (calc_evaluator_value_cn F n).Ok Tryz.prog ∧ (calc_evaluator_assign_cn F n).Ok Tryz.prog
  | 0 => ⟨(fun x y h => nomatch (show none = some y from h)), (fun x y h => nomatch (show none = some y from h))⟩
  | n + 1 => by
    have h := calc_evaluator_value_okn F n
    exact ⟨calc_evaluator_value_st F n h,
      calc_evaluator_assign_st F n h⟩
theorem calc_evaluator_value_ok (F : Nat) : (calc_evaluator_value_c F).Ok Tryz.prog := (calc_evaluator_value_okn F F).1
theorem calc_evaluator_assign_ok (F : Nat) : (calc_evaluator_assign_c F).Ok Tryz.prog := (calc_evaluator_value_okn F F).2
/- maps.Keys[map[string]string,string,string] -/
def maps_Keys (F : Nat)  (a0 : List ((List UInt8) × (List UInt8))) : Option Unit :=
 some ()
def maps_Keys_s : Shp := ⟨35, [.one (.mref 0)], [.map .str .str], [], ⟨.one (.func 55 [(1, 0)]), [none, some (.cells 61 [.mref 0])], []⟩, none⟩
def maps_Keys_p : Plan := .leaf
def maps_Keys_c (F : Nat) : Ctr E := ⟨maps_Keys_s, fun (x : List ((List UInt8) × (List UInt8))) => maps_Keys F x⟩
theorem maps_Keys_ok (F : Nat) : (maps_Keys_c F).Ok Tryz.prog := Ctr.ok_of (X := ⟨Tryz.prog, tyT, []⟩) (F := F) ⟨E_ok, okN, mixed⟩ (pl := maps_Keys_p) Tryz.func35 (by kernel_rfl) (fun x => by kernel_rfl)
/- jobshell/calc.Eval -/
def calc_Eval (F : Nat)  (a0 : TExpr) (a1 : List TBinding) : Option (Int × (List TBinding) × Int) :=
 (arith_Valid F (TExpr.mk a0.fOp a0.fN a0.fName a0.fKids)).bind fun x1 =>
 cond (x1 != 0)
 (some (0, [], x1))
 (loopF (σ := Int × (List ((List UInt8) × (List UInt8)))) (R := Int × (List TBinding) × Int) (fun rc3 x2 =>
 cond (decide (x2.1 < (a1.length : Int)))
 (rq ((decide (0 ≤ x2.1)) && (decide (x2.1 < (a1.length : Int)))) ((calc_Eval_1 F ((a1.getD (Int.toNat x2.1) dTBinding).fName) ((a1.getD (Int.toNat x2.1) dTBinding).fValue) x2.2).bind fun x4 =>
 rc3 (w64 (x2.1 + 1), x4)))
 ((calc_evaluator_value F (TExpr.mk a0.fOp a0.fN a0.fName a0.fKids) x2.2).bind fun x5 =>
 cond (x5.2.1 != 0)
 (some (0, [], x5.2.1))
 ((maps_Keys F x5.2.2).bind fun _ =>
 (skF F x5.2.2).bind fun x7 =>
 loopF (σ := (List TBinding) × Int) (R := Int × (List TBinding) × Int) (fun rc9 x8 =>
 cond (decide (x8.2 < (x7.length : Int)))
 (rq ((decide (0 ≤ x8.2)) && (decide (x8.2 < (x7.length : Int)))) (rq ((decide (x8.1.length + ([(TBinding.mk (x7.getD (Int.toNat x8.2) []) (mget keq x5.2.2 (x7.getD (Int.toNat x8.2) []) []))] : List TBinding).length ≤ 9223372036854775807)) && (decide ((x8.1.length + ([(TBinding.mk (x7.getD (Int.toNat x8.2) []) (mget keq x5.2.2 (x7.getD (Int.toNat x8.2) []) []))] : List TBinding).length) * 32 ≤ 140737488355328))) (rc9 (x8.1 ++ ([(TBinding.mk (x7.getD (Int.toNat x8.2) []) (mget keq x5.2.2 (x7.getD (Int.toNat x8.2) []) []))] : List TBinding), w64 (x8.2 + 1)))))
 (some (x5.1, x8.1, 0))) F (([] : List TBinding), 0)))) F (0, []))
def calc_Eval_s : Shp := ⟨16, [.one (.dat (.ext 1)), .one (.dat (.lst (.ext 0)))], [], [], ⟨.tup [.dat (.int .i64), .dat (.lst (.ext 0)), .dat (.int .i64)], [], []⟩, none⟩
def calc_Eval_p : Plan := .seq [] none (.leaf) (.seq [] none (.leaf) (.seq [] none (.leaf) (.seq [] none (.leaf) (.seq [] none (.seq [] none (.leaf) (.loop [] ⟨[(27, .one (.dat (.int .i64)))], [none, some (.map .str .str), none], []⟩ (.leaf))) (.seq [] none (.leaf) (.seq [] none (.leaf) (.seq [] none (.leaf) (.seq [] none (.leaf) (.seq [.slot 15 48 (.ext 0)] none (.seq [] none (.leaf) (.loop [] ⟨[(15, .one (.gsl 0 (.ext 0))), (54, .one (.dat (.int .i64)))], [none, none, none, none], [some (48, 2)]⟩ (.leaf))) (.leaf))))))))))
def calc_Eval_c (F : Nat) : Ctr E := ⟨calc_Eval_s, fun (x : TExpr × (List TBinding)) => calc_Eval F x.1 x.2⟩
theorem calc_Eval_ok (F : Nat) : (calc_Eval_c F).Ok Tryz.prog := Ctr.ok_of (X := ⟨Tryz.prog, tyT, [arith_Valid_c F, calc_Eval_1_c F, calc_evaluator_value_c F, maps_Keys_c F, slicesSorted_c F]⟩) (F := F) ⟨E_ok, okC (arith_Valid_ok F) (okC (calc_Eval_1_ok F) (okC (calc_evaluator_value_ok F) (okC (maps_Keys_ok F) (okC (slicesSorted_ok F) (okN))))), mixed⟩ (pl := calc_Eval_p) Tryz.func16 (by kernel_rfl) (fun x => by kernel_rfl)
/- jobshell/calc.Text -/
def calc_Text (F : Nat)  (a0 : List UInt8) (a1 : List TBinding) : Option (Int × (List TBinding) × Int) :=
 (arith_Parse F a0).bind fun x1 =>
 cond (x1.2.2 != 0)
 (some (0, [], x1.2.2))
 ((calc_Eval F (TExpr.mk x1.1.fOp x1.1.fN x1.1.fName x1.1.fKids) a1).bind fun x2 =>
 some (x2.1, x2.2.1, x2.2.2))
def calc_Text_s : Shp := ⟨19, [.one (.dat .str), .one (.dat (.lst (.ext 0)))], [], [], ⟨.tup [.dat (.int .i64), .dat (.lst (.ext 0)), .dat (.int .i64)], [], []⟩, none⟩
def calc_Text_p : Plan := .leaf
def calc_Text_c (F : Nat) : Ctr E := ⟨calc_Text_s, fun (x : (List UInt8) × (List TBinding)) => calc_Text F x.1 x.2⟩
theorem calc_Text_ok (F : Nat) : (calc_Text_c F).Ok Tryz.prog := Ctr.ok_of (X := ⟨Tryz.prog, tyT, [arith_Parse_c F, calc_Eval_c F]⟩) (F := F) ⟨E_ok, okC (arith_Parse_ok F) (okC (calc_Eval_ok F) (okN)), mixed⟩ (pl := calc_Text_p) Tryz.func19 (by kernel_rfl) (fun x => by kernel_rfl)
/- jobshell/calc.Number -/
def calc_Number (F : Nat)  (a0 : List UInt8) : Option (Int × Int) :=
 (calc_magnitude F a0).bind fun x1 =>
 cond (x1.2 != 0)
 (some (0, x1.2))
 (cond (x1.1 == 9223372036854775808)
 (some (0, 14))
 (some (w64 x1.1, 0)))
def calc_Number_s : Shp := ⟨12, [.one (.dat .str)], [], [], ⟨.tup [.dat (.int .i64), .dat (.int .i64)], [], []⟩, none⟩
def calc_Number_p : Plan := .leaf
def calc_Number_c (F : Nat) : Ctr E := ⟨calc_Number_s, fun (x : List UInt8) => calc_Number F x⟩
theorem calc_Number_ok (F : Nat) : (calc_Number_c F).Ok Tryz.prog := Ctr.ok_of (X := ⟨Tryz.prog, tyT, [calc_magnitude_c F]⟩) (F := F) ⟨E_ok, okC (calc_magnitude_ok F) (okN), mixed⟩ (pl := calc_Number_p) Tryz.func12 (by kernel_rfl) (fun x => by kernel_rfl)
/- jobshell/calc.copied -/
def calc_copied_m (F : Nat) (r_calc_copied : TExpr → Option TExpr) (a0 : TExpr) : Option TExpr :=
 loopF (σ := (List TExpr) × Int) (R := TExpr) (fun rc2 x1 =>
 cond (decide (x1.2 < (a0.fKids.length : Int)))
 (rq ((decide (0 ≤ x1.2)) && (decide (x1.2 < (a0.fKids.length : Int)))) ((r_calc_copied (TExpr.mk ((a0.fKids.getD (Int.toNat x1.2) dTExpr).fOp) ((a0.fKids.getD (Int.toNat x1.2) dTExpr).fN) ((a0.fKids.getD (Int.toNat x1.2) dTExpr).fName) ((a0.fKids.getD (Int.toNat x1.2) dTExpr).fKids))).bind fun x3 =>
 rq ((decide (x1.1.length + ([x3] : List TExpr).length ≤ 9223372036854775807)) && (decide ((x1.1.length + ([x3] : List TExpr).length) * 56 ≤ 140737488355328))) (rc2 (x1.1 ++ ([x3] : List TExpr), w64 (x1.2 + 1)))))
 (some (TExpr.mk ((TExpr.mk a0.fOp a0.fN a0.fName x1.1).fOp) ((TExpr.mk a0.fOp a0.fN a0.fName x1.1).fN) ((TExpr.mk a0.fOp a0.fN a0.fName x1.1).fName) ((TExpr.mk a0.fOp a0.fN a0.fName x1.1).fKids)))) F (([] : List TExpr), 0)
def calc_copied_s : Shp := ⟨41, [.one (.dat (.ext 1))], [], [], ⟨.one (.dat (.ext 1)), [], []⟩, none⟩
def calc_copied_p : Plan := .seq [] none (.leaf) (.seq [] none (.leaf) (.seq [.slot 3 31 (.ext 1)] none (.seq [] none (.leaf) (.loop [] ⟨[(3, .one (.gsl 0 (.ext 1))), (9, .one (.dat (.int .i64)))], [none, none], [some (31, 4)]⟩ (.leaf))) (.leaf)))
def calc_copied_n (F : Nat) : Nat → TExpr → Option TExpr
  | 0 => fun _ => none
  | n + 1 => calc_copied_m F (calc_copied_n F n)
def calc_copied (F : Nat) (a0 : TExpr) : Option TExpr := calc_copied_n F F a0
def calc_copied_cn (F n : Nat) : Ctr E := ⟨calc_copied_s, fun (x : TExpr) => calc_copied_n F n x⟩
def calc_copied_c (F : Nat) : Ctr E := ⟨calc_copied_s, fun (x : TExpr) => calc_copied F x⟩
theorem calc_copied_st (F n : Nat) (h : (calc_copied_cn F n).Ok Tryz.prog) : (calc_copied_cn F (n + 1)).Ok Tryz.prog := Ctr.ok_of (X := ⟨Tryz.prog, tyT, [calc_copied_cn F n]⟩) (F := F) ⟨E_ok, okC h (okN), mixed⟩ (pl := calc_copied_p) Tryz.func41 (by kernel_rfl) (fun x => by kernel_rfl)
theorem calc_copied_okn (F : Nat) : ∀ n, (calc_copied_cn F n).Ok Tryz.prog
  | 0 => (fun x y h => nomatch (show none = some y from h))
  | n + 1 => by
    have h := calc_copied_okn F n
    exact calc_copied_st F n h
theorem calc_copied_ok (F : Nat) : (calc_copied_c F).Ok Tryz.prog := (calc_copied_okn F F)
/- jobshell/calc.number -/
def calc_number (F : Nat)  (a0 : TExpr) : Option (Int × Bool) :=
 cond (a0.fOp == 1)
 (some (a0.fN, true))
 ((cond (a0.fOp == 3)
 (rq (decide (0 < (a0.fKids.length : Int))) (some (((a0.fKids.getD 0 dTExpr).fOp) == 1)))
 (some false) : Option Bool).bind fun x1 =>
 (cond x1
 (rq (decide (0 < (a0.fKids.length : Int))) (some (((a0.fKids.getD 0 dTExpr).fN) != 0)))
 (some false) : Option Bool).bind fun x2 =>
 cond x2
 (rq (decide (0 < (a0.fKids.length : Int))) (some (w64 (0 - ((a0.fKids.getD 0 dTExpr).fN)), true)))
 (some (0, false)))
def calc_number_s : Shp := ⟨73, [.one (.dat (.ext 1))], [], [], ⟨.tup [.dat (.int .i64), .dat .bool], [], []⟩, none⟩
def calc_number_p : Plan := .seq [] none (.leaf) (.seq [] none (.leaf) (.seq [] none (.seq [] none (.region [(11, ⟨[(19, .one (.dat .bool))], [none], []⟩, false), (8, ⟨[(27, .one (.dat .bool))], [none], []⟩, false)]) (.leaf)) (.leaf)))
def calc_number_c (F : Nat) : Ctr E := ⟨calc_number_s, fun (x : TExpr) => calc_number F x⟩
theorem calc_number_ok (F : Nat) : (calc_number_c F).Ok Tryz.prog := Ctr.ok_of (X := ⟨Tryz.prog, tyT, []⟩) (F := F) ⟨E_ok, okN, mixed⟩ (pl := calc_number_p) Tryz.func73 (by kernel_rfl) (fun x => by kernel_rfl)
/- jobshell/calc.constant -/
def calc_constant (F : Nat)  (a0 : Int) : Option TExpr :=
 cond (decide (a0 < 0))
 (some (TExpr.mk ((TExpr.mk 3 0 [] ([(TExpr.mk 1 (w64 (0 - a0)) [] [])] : List TExpr)).fOp) ((TExpr.mk 3 0 [] ([(TExpr.mk 1 (w64 (0 - a0)) [] [])] : List TExpr)).fN) ((TExpr.mk 3 0 [] ([(TExpr.mk 1 (w64 (0 - a0)) [] [])] : List TExpr)).fName) ((TExpr.mk 3 0 [] ([(TExpr.mk 1 (w64 (0 - a0)) [] [])] : List TExpr)).fKids)))
 (some (TExpr.mk ((TExpr.mk 1 a0 [] []).fOp) ((TExpr.mk 1 a0 [] []).fN) ((TExpr.mk 1 a0 [] []).fName) ((TExpr.mk 1 a0 [] []).fKids)))
def calc_constant_s : Shp := ⟨74, [.one (.dat (.int .i64))], [], [], ⟨.one (.dat (.ext 1)), [], []⟩, none⟩
def calc_constant_p : Plan := .leaf
def calc_constant_c (F : Nat) : Ctr E := ⟨calc_constant_s, fun (x : Int) => calc_constant F x⟩
theorem calc_constant_ok (F : Nat) : (calc_constant_c F).Ok Tryz.prog := Ctr.ok_of (X := ⟨Tryz.prog, tyT, []⟩) (F := F) ⟨E_ok, okN, mixed⟩ (pl := calc_constant_p) Tryz.func74 (by kernel_rfl) (fun x => by kernel_rfl)
/- jobshell/calc.fold -/
def calc_fold_m (F : Nat) (r_calc_fold : TExpr → Option TExpr) (a0 : TExpr) : Option TExpr :=
 loopF (σ := (List TExpr) × (List Int) × Int) (R := TExpr) (fun rc2 x1 =>
 cond (decide (x1.2.2 < (a0.fKids.length : Int)))
 (rq ((decide (0 ≤ x1.2.2)) && (decide (x1.2.2 < (a0.fKids.length : Int)))) ((r_calc_fold (TExpr.mk ((a0.fKids.getD (Int.toNat x1.2.2) dTExpr).fOp) ((a0.fKids.getD (Int.toNat x1.2.2) dTExpr).fN) ((a0.fKids.getD (Int.toNat x1.2.2) dTExpr).fName) ((a0.fKids.getD (Int.toNat x1.2.2) dTExpr).fKids))).bind fun x3 =>
 rq ((decide (x1.1.length + ([(TExpr.mk x3.fOp x3.fN x3.fName x3.fKids)] : List TExpr).length ≤ 9223372036854775807)) && (decide ((x1.1.length + ([(TExpr.mk x3.fOp x3.fN x3.fName x3.fKids)] : List TExpr).length) * 56 ≤ 140737488355328))) ((calc_number F (TExpr.mk x3.fOp x3.fN x3.fName x3.fKids)).bind fun x4 =>
 (cond x4.2
 (some ((x1.2.1.length : Int) == (w64 (((x1.1 ++ ([(TExpr.mk x3.fOp x3.fN x3.fName x3.fKids)] : List TExpr)).length : Int) - 1))))
 (some false) : Option Bool).bind fun x5 =>
 cond x5
 (rq ((decide (x1.2.1.length + ([x4.1] : List Int).length ≤ 9223372036854775807)) && (decide ((x1.2.1.length + ([x4.1] : List Int).length) * 8 ≤ 140737488355328))) (rc2 (x1.1 ++ ([(TExpr.mk x3.fOp x3.fN x3.fName x3.fKids)] : List TExpr), x1.2.1 ++ ([x4.1] : List Int), w64 (x1.2.2 + 1))))
 (rc2 (x1.1 ++ ([(TExpr.mk x3.fOp x3.fN x3.fName x3.fKids)] : List TExpr), x1.2.1, w64 (x1.2.2 + 1))))))
 ((cond (a0.fOp == 26)
 (some true)
 (some ((x1.2.1.length : Int) == 0)) : Option Bool).bind fun x6 =>
 cond x6
 (some (TExpr.mk ((TExpr.mk a0.fOp a0.fN a0.fName x1.1).fOp) ((TExpr.mk a0.fOp a0.fN a0.fName x1.1).fN) ((TExpr.mk a0.fOp a0.fN a0.fName x1.1).fName) ((TExpr.mk a0.fOp a0.fN a0.fName x1.1).fKids)))
 (rq (decide (0 < (x1.2.1.length : Int))) (jj (σ := Unit) (R := TExpr) (cond (a0.fOp == 25)
 (cond ((x1.2.1.getD 0 0) != 0)
 (rq (decide (1 < (x1.1.length : Int))) (some (.inr (TExpr.mk ((x1.1.getD 1 dTExpr).fOp) ((x1.1.getD 1 dTExpr).fN) ((x1.1.getD 1 dTExpr).fName) ((x1.1.getD 1 dTExpr).fKids)))))
 (rq (decide (2 < (x1.1.length : Int))) (some (.inr (TExpr.mk ((x1.1.getD 2 dTExpr).fOp) ((x1.1.getD 2 dTExpr).fN) ((x1.1.getD 2 dTExpr).fName) ((x1.1.getD 2 dTExpr).fKids))))))
 (cond (a0.fOp == 23)
 (cond ((x1.2.1.getD 0 0) == 0)
 ((calc_constant F 0).bind fun x8 =>
 some (.inr (TExpr.mk x8.fOp x8.fN x8.fName x8.fKids)))
 (some (.inl ())))
 (cond (a0.fOp == 24)
 (cond ((x1.2.1.getD 0 0) != 0)
 ((calc_constant F 1).bind fun x9 =>
 some (.inr (TExpr.mk x9.fOp x9.fN x9.fName x9.fKids)))
 (some (.inl ())))
 (some (.inl ()))))) fun _ =>
 cond (decide ((x1.2.1.length : Int) < (x1.1.length : Int)))
 (some (TExpr.mk ((TExpr.mk a0.fOp a0.fN a0.fName x1.1).fOp) ((TExpr.mk a0.fOp a0.fN a0.fName x1.1).fN) ((TExpr.mk a0.fOp a0.fN a0.fName x1.1).fName) ((TExpr.mk a0.fOp a0.fN a0.fName x1.1).fKids)))
 ((calc_unary F a0.fOp (x1.2.1.getD 0 0)).bind fun x10 =>
 (cond ((x1.1.length : Int) == 2)
 (rq (decide (1 < (x1.2.1.length : Int))) ((calc_binary F a0.fOp (x1.2.1.getD 0 0) (x1.2.1.getD 1 0)).bind fun x12 =>
 some (x12.1, x12.2)))
 (some (x10, 0)) : Option (Int × Int)).bind fun x11 =>
 (cond (x11.2 != 0)
 (some true)
 (some (x11.1 == (-9223372036854775808))) : Option Bool).bind fun x13 =>
 cond x13
 (some (TExpr.mk ((TExpr.mk a0.fOp a0.fN a0.fName x1.1).fOp) ((TExpr.mk a0.fOp a0.fN a0.fName x1.1).fN) ((TExpr.mk a0.fOp a0.fN a0.fName x1.1).fName) ((TExpr.mk a0.fOp a0.fN a0.fName x1.1).fKids)))
 ((calc_constant F x11.1).bind fun x14 =>
 some (TExpr.mk x14.fOp x14.fN x14.fName x14.fKids))))))) F (([] : List TExpr), ([] : List Int), 0)
def calc_fold_s : Shp := ⟨42, [.one (.dat (.ext 1))], [], [], ⟨.one (.dat (.ext 1)), [], []⟩, none⟩
def calc_fold_p : Plan := .seq [] none (.leaf) (.seq [] none (.leaf) (.seq [.slot 3 31 (.ext 1)] none (.leaf) (.seq [.slot 4 3 (.int .i64)] none (.seq [] none (.leaf) (.loop [] ⟨[(3, .one (.gsl 0 (.ext 1))), (4, .one (.gsl 1 (.int .i64))), (15, .one (.dat (.int .i64)))], [none, none], [some (31, 4), some (3, 1)]⟩ (.seq [] none (.leaf) (.seq [] none (.leaf) (.seq [] none (.seq [] none (.leaf) (.seq [] none (.leaf) (.seq [] none (.leaf) (.seq [] none (.leaf) (.seq [] none (.region [(9, ⟨[(38, .one (.dat .bool))], [none, none, none], [none, none, none]⟩, false)]) (.leaf)))))) (.leaf)))))) (.seq [] none (.leaf) (.seq [] none (.seq [] none (.region [(8, ⟨[(53, .one (.dat .bool))], [none, none], [none, none]⟩, false)]) (.leaf)) (.seq [] none (.leaf) (.seq [] (some (⟨[], [none, none], [none, none]⟩, true)) (.leaf) (.seq [] none (.leaf) (.seq [] none (.leaf) (.seq [] (some (⟨[(10, .one (.dat (.int .i64))), (11, .one (.dat (.int .i64)))], [none, none], [none, none]⟩, false)) (.seq [] none (.leaf) (.cond (.draw [⟨true, 6, none⟩, ⟨false, 2, none⟩, ⟨true, 4, none⟩]) (.leaf))) (.seq [] none (.seq [] none (.region [(6, ⟨[(108, .one (.dat .bool))], [none, none], [none, none]⟩, false)]) (.leaf)) (.leaf))))))))))))
def calc_fold_n (F : Nat) : Nat → TExpr → Option TExpr
  | 0 => fun _ => none
  | n + 1 => calc_fold_m F (calc_fold_n F n)
def calc_fold (F : Nat) (a0 : TExpr) : Option TExpr := calc_fold_n F F a0
def calc_fold_cn (F n : Nat) : Ctr E := ⟨calc_fold_s, fun (x : TExpr) => calc_fold_n F n x⟩
def calc_fold_c (F : Nat) : Ctr E := ⟨calc_fold_s, fun (x : TExpr) => calc_fold F x⟩
theorem calc_fold_st (F n : Nat) (h : (calc_fold_cn F n).Ok Tryz.prog) : (calc_fold_cn F (n + 1)).Ok Tryz.prog := Ctr.ok_of (X := ⟨Tryz.prog, tyT, [calc_fold_cn F n, calc_number_c F, calc_constant_c F, calc_unary_c F, calc_binary_c F]⟩) (F := F) ⟨E_ok, okC h (okC (calc_number_ok F) (okC (calc_constant_ok F) (okC (calc_unary_ok F) (okC (calc_binary_ok F) (okN))))), mixed⟩ (pl := calc_fold_p) Tryz.func42 (by kernel_rfl) (fun x => by kernel_rfl)
theorem calc_fold_okn (F : Nat) : ∀ n, (calc_fold_cn F n).Ok Tryz.prog
  | 0 => (fun x y h => nomatch (show none = some y from h))
  | n + 1 => by
    have h := calc_fold_okn F n
    exact calc_fold_st F n h
theorem calc_fold_ok (F : Nat) : (calc_fold_c F).Ok Tryz.prog := (calc_fold_okn F F)
/- jobshell/calc.Fold -/
def calc_Fold (F : Nat)  (a0 : TExpr) : Option TExpr :=
 (arith_Valid F (TExpr.mk a0.fOp a0.fN a0.fName a0.fKids)).bind fun x1 =>
 cond (x1 != 0)
 ((calc_copied F (TExpr.mk a0.fOp a0.fN a0.fName a0.fKids)).bind fun x2 =>
 some (TExpr.mk x2.fOp x2.fN x2.fName x2.fKids))
 ((calc_fold F (TExpr.mk a0.fOp a0.fN a0.fName a0.fKids)).bind fun x3 =>
 some (TExpr.mk x3.fOp x3.fN x3.fName x3.fKids))
def calc_Fold_s : Shp := ⟨21, [.one (.dat (.ext 1))], [], [], ⟨.one (.dat (.ext 1)), [], []⟩, none⟩
def calc_Fold_p : Plan := .leaf
def calc_Fold_c (F : Nat) : Ctr E := ⟨calc_Fold_s, fun (x : TExpr) => calc_Fold F x⟩
theorem calc_Fold_ok (F : Nat) : (calc_Fold_c F).Ok Tryz.prog := Ctr.ok_of (X := ⟨Tryz.prog, tyT, [arith_Valid_c F, calc_copied_c F, calc_fold_c F]⟩) (F := F) ⟨E_ok, okC (arith_Valid_ok F) (okC (calc_copied_ok F) (okC (calc_fold_ok F) (okN))), mixed⟩ (pl := calc_Fold_p) Tryz.func21 (by kernel_rfl) (fun x => by kernel_rfl)
/- jobshell/jobshellref05.Same -/
def ref05_Same_m (F : Nat) (r_ref05_Same : TExpr → TExpr → Option Bool) (a0 : TExpr) (a1 : TExpr) : Option Bool :=
 (cond (a0.fOp != a1.fOp)
 (some true)
 (some (a0.fN != a1.fN)) : Option Bool).bind fun x1 =>
 (cond x1
 (some true)
 (some (!(a0.fName == a1.fName))) : Option Bool).bind fun x2 =>
 (cond x2
 (some true)
 (some ((a0.fKids.length : Int) != (a1.fKids.length : Int))) : Option Bool).bind fun x3 =>
 cond x3
 (some false)
 (loopF (σ := Int) (R := Bool) (fun rc5 x4 =>
 cond (decide (x4 < (a0.fKids.length : Int)))
 (rq ((decide (0 ≤ x4)) && (decide (x4 < (a0.fKids.length : Int)))) (rq ((decide (0 ≤ x4)) && (decide (x4 < (a1.fKids.length : Int)))) ((r_ref05_Same (a0.fKids.getD (Int.toNat x4) dTExpr) (a1.fKids.getD (Int.toNat x4) dTExpr)).bind fun x6 =>
 cond (!x6)
 (some false)
 (rc5 (w64 (x4 + 1))))))
 (some true)) F 0)
def ref05_Same_s : Shp := ⟨22, [.one (.dat (.ext 1)), .one (.dat (.ext 1))], [], [], ⟨.one (.dat .bool), [], []⟩, none⟩
def ref05_Same_p : Plan := .seq [] none (.leaf) (.seq [] none (.seq [] none (.region [(12, ⟨[(17, .one (.dat .bool))], [none, none], []⟩, false), (7, ⟨[(24, .one (.dat .bool))], [none, none], []⟩, false), (9, ⟨[(33, .one (.dat .bool))], [none, none], []⟩, false)]) (.leaf)) (.seq [] none (.seq [] none (.leaf) (.loop [] ⟨[(5, .one (.dat (.int .i64)))], [none, none], []⟩ (.seq [] none (.leaf) (.seq [] none (.seq [] none (.draw [⟨true, 10, none⟩, ⟨false, 2, none⟩]) (.leaf)) (.leaf))))) (.leaf)))
def ref05_Same_n (F : Nat) : Nat → TExpr → TExpr → Option Bool
  | 0 => fun _ _ => none
  | n + 1 => ref05_Same_m F (ref05_Same_n F n)
def ref05_Same (F : Nat) (a0 : TExpr) (a1 : TExpr) : Option Bool := ref05_Same_n F F a0 a1
def ref05_Same_cn (F n : Nat) : Ctr E := ⟨ref05_Same_s, fun (x : TExpr × TExpr) => ref05_Same_n F n x.1 x.2⟩
def ref05_Same_c (F : Nat) : Ctr E := ⟨ref05_Same_s, fun (x : TExpr × TExpr) => ref05_Same F x.1 x.2⟩
theorem ref05_Same_st (F n : Nat) (h : (ref05_Same_cn F n).Ok Tryz.prog) : (ref05_Same_cn F (n + 1)).Ok Tryz.prog := Ctr.ok_of (X := ⟨Tryz.prog, tyT, [ref05_Same_cn F n]⟩) (F := F) ⟨E_ok, okC h (okN), mixed⟩ (pl := ref05_Same_p) Tryz.func22 (by kernel_rfl) (fun x => by kernel_rfl)
theorem ref05_Same_okn (F : Nat) : ∀ n, (ref05_Same_cn F n).Ok Tryz.prog
  | 0 => (fun x y h => nomatch (show none = some y from h))
  | n + 1 => by
    have h := ref05_Same_okn F n
    exact ref05_Same_st F n h
theorem ref05_Same_ok (F : Nat) : (ref05_Same_c F).Ok Tryz.prog := (ref05_Same_okn F F)
/- jobshell/jobshelllaw06.awake -/
def law06_awake (F : Nat)   : Option Bool :=
 (calc_Text F ([97, 32, 43, 61, 32, 97, 32, 61, 32, 53] : List UInt8) []).bind fun x1 =>
 (calc_Text F ([97, 32, 43, 32, 49] : List UInt8) ([(TBinding.mk ([97] : List UInt8) ([48, 49, 48] : List UInt8))] : List TBinding)).bind fun x2 =>
 (calc_Text F ([49, 32, 47, 32, 48] : List UInt8) []).bind fun x3 =>
 (calc_Number F ([48, 120, 49, 70] : List UInt8)).bind fun x4 =>
 (cond (x1.1 != 10)
 (some true)
 (some ((x1.2.1.length : Int) != 1)) : Option Bool).bind fun x5 =>
 (cond x5
 (some true)
 (rq (decide (0 < (x1.2.1.length : Int))) (some (!(((x1.2.1.getD 0 dTBinding).fName == (TBinding.mk ([97] : List UInt8) ([49, 48] : List UInt8)).fName) && (((x1.2.1.getD 0 dTBinding).fValue == (TBinding.mk ([97] : List UInt8) ([49, 48] : List UInt8)).fValue) && true))))) : Option Bool).bind fun x6 =>
 (cond x6
 (some true)
 (some (x1.2.2 != 0)) : Option Bool).bind fun x7 =>
 (cond x7
 (some true)
 (some (x2.1 != 9)) : Option Bool).bind fun x8 =>
 (cond x8
 (some true)
 (some (x2.2.2 != 0)) : Option Bool).bind fun x9 =>
 (cond x9
 (some true)
 (some (x3.2.2 != 13)) : Option Bool).bind fun x10 =>
 (cond x10
 (some true)
 (some (x4.1 != 31)) : Option Bool).bind fun x11 =>
 (cond x11
 (some true)
 (some (x4.2 != 0)) : Option Bool).bind fun x12 =>
 cond x12
 (some false)
 ((calc_Fold F (TExpr.mk 10 0 [] ([(TExpr.mk 1 2 [] []), (TExpr.mk 1 3 [] [])] : List TExpr))).bind fun x13 =>
 (ref05_Same F (TExpr.mk x13.fOp x13.fN x13.fName x13.fKids) (TExpr.mk 1 5 [] [])).bind fun x14 =>
 some x14)
def law06_awake_s : Shp := ⟨11, [], [], [], ⟨.one (.dat .bool), [], []⟩, none⟩
def law06_awake_p : Plan := .seq [] none (.leaf) (.seq [] none (.leaf) (.seq [] none (.leaf) (.seq [] none (.leaf) (.seq [] none (.leaf) (.seq [] none (.seq [] none (.region [(7, ⟨[(40, .one (.dat .bool))], [], [none]⟩, false), (7, ⟨[(47, .one (.dat .bool))], [], [none]⟩, false), (4, ⟨[(51, .one (.dat .bool))], [], [none]⟩, false), (4, ⟨[(55, .one (.dat .bool))], [], [none]⟩, false), (4, ⟨[(59, .one (.dat .bool))], [], [none]⟩, false), (4, ⟨[(63, .one (.dat .bool))], [], [none]⟩, false), (4, ⟨[(67, .one (.dat .bool))], [], [none]⟩, false), (4, ⟨[(71, .one (.dat .bool))], [], [none]⟩, false)]) (.leaf)) (.leaf))))))
def law06_awake_c (F : Nat) : Ctr E := ⟨law06_awake_s, fun (x : Unit) => law06_awake F ⟩
theorem law06_awake_ok (F : Nat) : (law06_awake_c F).Ok Tryz.prog := Ctr.ok_of (X := ⟨Tryz.prog, tyT, [calc_Text_c F, calc_Number_c F, calc_Fold_c F, ref05_Same_c F]⟩) (F := F) ⟨E_ok, okC (calc_Text_ok F) (okC (calc_Number_ok F) (okC (calc_Fold_ok F) (okC (ref05_Same_ok F) (okN)))), mixed⟩ (pl := law06_awake_p) Tryz.func11 (by kernel_rfl) (fun x => by kernel_rfl)
/- jobshell/jobshellref05.digit -/
def ref05_digit (F : Nat)  (a0 : Int) : Option Bool :=
 (cond (decide (48 ≤ a0))
 (some (decide (a0 ≤ 57)))
 (some false) : Option Bool).bind fun x1 =>
 some x1
def ref05_digit_s : Shp := ⟨107, [.one (.dat (.int .u8))], [], [], ⟨.one (.dat .bool), [], []⟩, none⟩
def ref05_digit_p : Plan := .seq [] none (.leaf) (.seq [] none (.region [(6, ⟨[(8, .one (.dat .bool))], [], []⟩, false)]) (.leaf))
def ref05_digit_c (F : Nat) : Ctr E := ⟨ref05_digit_s, fun (x : Int) => ref05_digit F x⟩
theorem ref05_digit_ok (F : Nat) : (ref05_digit_c F).Ok Tryz.prog := Ctr.ok_of (X := ⟨Tryz.prog, tyT, []⟩) (F := F) ⟨E_ok, okN, mixed⟩ (pl := ref05_digit_p) Tryz.func107 (by kernel_rfl) (fun x => by kernel_rfl)
/- jobshell/jobshellref05.value -/
def ref05_value (F : Nat)  (a0 : Int) (a1 : Int) : Option Int :=
 ((ref05_digit F a0).bind fun x2 =>
 cond x2
 (some (w64 (IntKind.wrap .u8 (a0 - 48))))
 ((cond (decide (97 ≤ a0))
 (some (decide (a0 ≤ 102)))
 (some false) : Option Bool).bind fun x3 =>
 cond x3
 (some (w64 ((w64 (IntKind.wrap .u8 (a0 - 97))) + 10)))
 ((cond (decide (65 ≤ a0))
 (some (decide (a0 ≤ 70)))
 (some false) : Option Bool).bind fun x4 =>
 cond x4
 (some (w64 ((w64 (IntKind.wrap .u8 (a0 - 65))) + 10)))
 (some (-1)))) : Option Int).bind fun x1 =>
 cond (decide (a1 ≤ x1))
 (some (-1))
 (some x1)
def ref05_value_s : Shp := ⟨79, [.one (.dat (.int .u8)), .one (.dat (.int .i64))], [], [], ⟨.one (.dat (.int .i64)), [], []⟩, none⟩
def ref05_value_p : Plan := .seq [] none (.leaf) (.seq [] none (.leaf) (.seq [] (some (⟨[(5, .one (.dat (.int .i64)))], [], []⟩, false)) (.seq [] none (.leaf) (.cond (.leaf) (.seq [] none (.region [(6, ⟨[(18, .one (.dat .bool))], [], []⟩, false)]) (.cond (.leaf) (.seq [] none (.region [(6, ⟨[(29, .one (.dat .bool))], [], []⟩, false)]) (.leaf)))))) (.leaf)))
def ref05_value_c (F : Nat) : Ctr E := ⟨ref05_value_s, fun (x : Int × Int) => ref05_value F x.1 x.2⟩
theorem ref05_value_ok (F : Nat) : (ref05_value_c F).Ok Tryz.prog := Ctr.ok_of (X := ⟨Tryz.prog, tyT, [ref05_digit_c F]⟩) (F := F) ⟨E_ok, okC (ref05_digit_ok F) (okN), mixed⟩ (pl := ref05_value_p) Tryz.func79 (by kernel_rfl) (fun x => by kernel_rfl)
/- jobshell/jobshellref05.Constant -/
def ref05_Constant (F : Nat)  (a0 : List UInt8) : Option (Int × Int) :=
 ((cond (decide (2 < (a0.length : Int)))
 (rq (decide (0 < (a0.length : Int))) (some (((a0.getD 0 0).toNat : Int) == 48)))
 (some false) : Option Bool).bind fun x2 =>
 (cond x2
 (rq (decide (1 < (a0.length : Int))) (cond (((a0.getD 1 0).toNat : Int) == 120)
 (some true)
 (rq (decide (1 < (a0.length : Int))) (some (((a0.getD 1 0).toNat : Int) == 88)))))
 (some false) : Option Bool).bind fun x3 =>
 cond x3
 (rq ((decide (2 ≤ (a0.length : Int))) && (decide ((a0.length : Int) ≤ (a0.length : Int)))) (some (sl a0 2 (a0.length : Int), 16)))
 ((cond (decide (1 < (a0.length : Int)))
 (rq (decide (0 < (a0.length : Int))) (some (((a0.getD 0 0).toNat : Int) == 48)))
 (some false) : Option Bool).bind fun x4 =>
 cond x4
 (rq ((decide (1 ≤ (a0.length : Int))) && (decide ((a0.length : Int) ≤ (a0.length : Int)))) (some (sl a0 1 (a0.length : Int), 8)))
 (some (a0, 10))) : Option ((List UInt8) × Int)).bind fun x1 =>
 cond (x1.1 == [])
 (some (0, 6))
 (loopF (σ := Int) (R := Int × Int) (fun rc6 x5 =>
 cond (decide (x5 < (x1.1.length : Int)))
 (rq ((decide (0 ≤ x5)) && (decide (x5 < (x1.1.length : Int)))) ((ref05_value F ((x1.1.getD (Int.toNat x5) 0).toNat : Int) x1.2).bind fun x7 =>
 cond (decide (x7 < 0))
 (some (0, 6))
 (rc6 (w64 (x5 + 1)))))
 (loopF (σ := Int × Int) (R := Int × Int) (fun rc9 x8 =>
 cond (decide (x8.2 < (x1.1.length : Int)))
 (rq ((decide (0 ≤ x8.2)) && (decide (x8.2 < (x1.1.length : Int)))) ((ref05_value F ((x1.1.getD (Int.toNat x8.2) 0).toNat : Int) x1.2).bind fun x10 =>
 rq (!((IntKind.wrap .u64 x1.2) == 0)) (cond (decide (IntKind.wrap .u64 (Int.tdiv (IntKind.wrap .u64 (9223372036854775808 - (IntKind.wrap .u64 x10))) (IntKind.wrap .u64 x1.2)) < x8.1))
 (some (0, 14))
 (rc9 (IntKind.wrap .u64 ((IntKind.wrap .u64 (x8.1 * (IntKind.wrap .u64 x1.2))) + (IntKind.wrap .u64 x10)), w64 (x8.2 + 1))))))
 (some (x8.1, 0))) F (0, 0))) F 0)
def ref05_Constant_s : Shp := ⟨47, [.one (.dat .str)], [], [], ⟨.tup [.dat (.int .u64), .dat (.int .i64)], [], []⟩, none⟩
def ref05_Constant_p : Plan := .seq [] none (.leaf) (.seq [] none (.leaf) (.seq [] (some (⟨[(0, .one (.dat .str)), (4, .one (.dat (.int .i64)))], [], []⟩, false)) (.seq [] none (.region [(8, ⟨[(16, .one (.dat .bool))], [], []⟩, false), (10, ⟨[(26, .one (.dat .bool))], [], []⟩, false)]) (.cond (.leaf) (.seq [] none (.region [(8, ⟨[(36, .one (.dat .bool))], [], []⟩, false)]) (.leaf)))) (.seq [] none (.leaf) (.seq [] none (.seq [] none (.leaf) (.loop [] ⟨[(5, .one (.dat (.int .i64)))], [], []⟩ (.leaf))) (.seq [] none (.leaf) (.seq [] none (.seq [] none (.leaf) (.loop [] ⟨[(6, .one (.dat (.int .u64))), (7, .one (.dat (.int .i64)))], [], []⟩ (.leaf))) (.leaf)))))))
def ref05_Constant_c (F : Nat) : Ctr E := ⟨ref05_Constant_s, fun (x : List UInt8) => ref05_Constant F x⟩
theorem ref05_Constant_ok (F : Nat) : (ref05_Constant_c F).Ok Tryz.prog := Ctr.ok_of (X := ⟨Tryz.prog, tyT, [ref05_value_c F]⟩) (F := F) ⟨E_ok, okC (ref05_value_ok F) (okN), mixed⟩ (pl := ref05_Constant_p) Tryz.func47 (by kernel_rfl) (fun x => by kernel_rfl)
/- jobshell/jobshellref06.constant -/
def ref06_constant (F : Nat)  (a0 : List UInt8) : Option (Int × Int) :=
 (cond (a0 == [])
 (some true)
 (rq (decide (0 < (a0.length : Int))) (some (decide (((a0.getD 0 0).toNat : Int) < 48)))) : Option Bool).bind fun x1 =>
 (cond x1
 (some true)
 (rq (decide (0 < (a0.length : Int))) (some (decide (57 < ((a0.getD 0 0).toNat : Int))))) : Option Bool).bind fun x2 =>
 cond x2
 (some (0, 6))
 ((ref05_Constant F a0).bind fun x3 =>
 some (x3.1, x3.2))
def ref06_constant_s : Shp := ⟨28, [.one (.dat .str)], [], [], ⟨.tup [.dat (.int .u64), .dat (.int .i64)], [], []⟩, none⟩
def ref06_constant_p : Plan := .seq [] none (.leaf) (.seq [] none (.seq [] none (.region [(7, ⟨[(10, .one (.dat .bool))], [], []⟩, false), (5, ⟨[(15, .one (.dat .bool))], [], []⟩, false)]) (.leaf)) (.leaf))
def ref06_constant_c (F : Nat) : Ctr E := ⟨ref06_constant_s, fun (x : List UInt8) => ref06_constant F x⟩
theorem ref06_constant_ok (F : Nat) : (ref06_constant_c F).Ok Tryz.prog := Ctr.ok_of (X := ⟨Tryz.prog, tyT, [ref05_Constant_c F]⟩) (F := F) ⟨E_ok, okC (ref05_Constant_ok F) (okN), mixed⟩ (pl := ref06_constant_p) Tryz.func28 (by kernel_rfl) (fun x => by kernel_rfl)
/- jobshell/jobshellref06.Number -/
def ref06_Number (F : Nat)  (a0 : List UInt8) : Option (Int × Int) :=
 (ref06_constant F a0).bind fun x1 =>
 ((cond (x1.2 == 0)
 (some (decide (9223372036854775807 < x1.1)))
 (some false) : Option Bool).bind fun x3 =>
 cond x3
 (some 14)
 (some x1.2) : Option Int).bind fun x2 =>
 cond (x2 != 0)
 (some (0, x2))
 (some (w64 x1.1, 0))
def ref06_Number_s : Shp := ⟨13, [.one (.dat .str)], [], [], ⟨.tup [.dat (.int .i64), .dat (.int .i64)], [], []⟩, none⟩
def ref06_Number_p : Plan := .seq [] none (.leaf) (.seq [] none (.leaf) (.seq [] (some (⟨[(5, .one (.dat (.int .i64)))], [], []⟩, false)) (.seq [] none (.region [(6, ⟨[(16, .one (.dat .bool))], [], []⟩, false)]) (.leaf)) (.leaf)))
def ref06_Number_c (F : Nat) : Ctr E := ⟨ref06_Number_s, fun (x : List UInt8) => ref06_Number F x⟩
theorem ref06_Number_ok (F : Nat) : (ref06_Number_c F).Ok Tryz.prog := Ctr.ok_of (X := ⟨Tryz.prog, tyT, [ref06_constant_c F]⟩) (F := F) ⟨E_ok, okC (ref06_constant_ok F) (okN), mixed⟩ (pl := ref06_Number_p) Tryz.func13 (by kernel_rfl) (fun x => by kernel_rfl)
/- jobshell/jobshelllaw06.CalcNumbers -/
def law06_CalcNumbers (F : Nat)  (a0 : List UInt8) : Option Bool :=
 cond (decide (60 < (a0.length : Int)))
 ((law06_awake 60).bind fun x1 =>
 some x1)
 ((calc_Number F a0).bind fun x2 =>
 (ref06_Number F a0).bind fun x3 =>
 (cond (x2.1 == x3.1)
 (some (x2.2 == x3.2))
 (some false) : Option Bool).bind fun x4 =>
 (cond x4
 ((law06_awake 60).bind fun x6 =>
 some x6)
 (some false) : Option Bool).bind fun x5 =>
 some x5)
def law06_CalcNumbers_s : Shp := ⟨3, [.one (.dat .str)], [], [], ⟨.one (.dat .bool), [], []⟩, none⟩
def law06_CalcNumbers_p : Plan := .seq [] none (.leaf) (.seq [] none (.leaf) (.seq [] none (.leaf) (.seq [] none (.leaf) (.seq [] none (.region [(8, ⟨[(28, .one (.dat .bool))], [], []⟩, false), (3, ⟨[(31, .one (.dat .bool))], [], []⟩, false)]) (.leaf)))))
def law06_CalcNumbers_c (F : Nat) : Ctr E := ⟨law06_CalcNumbers_s, fun (x : List UInt8) => law06_CalcNumbers F x⟩
theorem law06_CalcNumbers_ok (F : Nat) : (law06_CalcNumbers_c F).Ok Tryz.prog := Ctr.ok_of (X := ⟨Tryz.prog, tyT, [law06_awake_c 60, calc_Number_c F, ref06_Number_c F]⟩) (F := F) ⟨E_ok, okC (law06_awake_ok 60) (okC (calc_Number_ok F) (okC (ref06_Number_ok F) (okN))), mixed⟩ (pl := law06_CalcNumbers_p) Tryz.func3 (by kernel_rfl) (fun x => by kernel_rfl)
/- jobshell/jobshellref05.small -/
def ref05_small_m (F : Nat) (r_ref05_small : TExpr → Int → Int → Option Int) (a0 : TExpr) (a1 : Int) (a2 : Int) : Option Int :=
 (cond (decide (a1 < 1))
 (some true)
 (some (decide (a2 < 1))) : Option Bool).bind fun x1 =>
 (cond x1
 (some true)
 (some (decide (60 < (a0.fName.length : Int)))) : Option Bool).bind fun x2 =>
 cond x2
 (some (-1))
 (loopF (σ := Int × Int) (R := Int) (fun rc4 x3 =>
 (cond (decide (x3.2 < (a0.fKids.length : Int)))
 (some (decide (0 ≤ x3.1)))
 (some false) : Option Bool).bind fun x5 =>
 cond x5
 (rq ((decide (0 ≤ x3.2)) && (decide (x3.2 < (a0.fKids.length : Int)))) ((r_ref05_small (a0.fKids.getD (Int.toNat x3.2) dTExpr) x3.1 (w64 (a2 - 1))).bind fun x6 =>
 rc4 (x6, w64 (x3.2 + 1))))
 (some x3.1)) F (w64 (a1 - 1), 0))
def ref05_small_s : Shp := ⟨29, [.one (.dat (.ext 1)), .one (.dat (.int .i64)), .one (.dat (.int .i64))], [], [], ⟨.one (.dat (.int .i64)), [], []⟩, none⟩
def ref05_small_p : Plan := .seq [] none (.leaf) (.seq [] none (.seq [] none (.region [(6, ⟨[(13, .one (.dat .bool))], [none], []⟩, false), (6, ⟨[(19, .one (.dat .bool))], [none], []⟩, false)]) (.leaf)) (.seq [] none (.leaf) (.seq [] none (.seq [] none (.leaf) (.loop [] ⟨[(1, .one (.dat (.int .i64))), (7, .one (.dat (.int .i64)))], [none], []⟩ (.seq [] none (.seq [] none (.region [(9, ⟨[(30, .one (.dat .bool))], [none], []⟩, false)]) (.leaf)) (.leaf)))) (.leaf))))
def ref05_small_n (F : Nat) : Nat → TExpr → Int → Int → Option Int
  | 0 => fun _ _ _ => none
  | n + 1 => ref05_small_m F (ref05_small_n F n)
def ref05_small (F : Nat) (a0 : TExpr) (a1 : Int) (a2 : Int) : Option Int := ref05_small_n F F a0 a1 a2
def ref05_small_cn (F n : Nat) : Ctr E := ⟨ref05_small_s, fun (x : TExpr × Int × Int) => ref05_small_n F n x.1 x.2.1 x.2.2⟩
def ref05_small_c (F : Nat) : Ctr E := ⟨ref05_small_s, fun (x : TExpr × Int × Int) => ref05_small F x.1 x.2.1 x.2.2⟩
theorem ref05_small_st (F n : Nat) (h : (ref05_small_cn F n).Ok Tryz.prog) : (ref05_small_cn F (n + 1)).Ok Tryz.prog := Ctr.ok_of (X := ⟨Tryz.prog, tyT, [ref05_small_cn F n]⟩) (F := F) ⟨E_ok, okC h (okN), mixed⟩ (pl := ref05_small_p) Tryz.func29 (by kernel_rfl) (fun x => by kernel_rfl)
theorem ref05_small_okn (F : Nat) : ∀ n, (ref05_small_cn F n).Ok Tryz.prog
  | 0 => (fun x y h => nomatch (show none = some y from h))
  | n + 1 => by
    have h := ref05_small_okn F n
    exact ref05_small_st F n h
theorem ref05_small_ok (F : Nat) : (ref05_small_c F).Ok Tryz.prog := (ref05_small_okn F F)
/- jobshell/jobshellref05.Small -/
def ref05_Small (F : Nat)  (a0 : TExpr) (a1 : Int) : Option Bool :=
 (ref05_small F (TExpr.mk a0.fOp a0.fN a0.fName a0.fKids) a1 40).bind fun x1 =>
 some (decide (0 ≤ x1))
def ref05_Small_s : Shp := ⟨14, [.one (.dat (.ext 1)), .one (.dat (.int .i64))], [], [], ⟨.one (.dat .bool), [], []⟩, none⟩
def ref05_Small_p : Plan := .leaf
def ref05_Small_c (F : Nat) : Ctr E := ⟨ref05_Small_s, fun (x : TExpr × Int) => ref05_Small F x.1 x.2⟩
theorem ref05_Small_ok (F : Nat) : (ref05_Small_c F).Ok Tryz.prog := Ctr.ok_of (X := ⟨Tryz.prog, tyT, [ref05_small_c F]⟩) (F := F) ⟨E_ok, okC (ref05_small_ok F) (okN), mixed⟩ (pl := ref05_Small_p) Tryz.func14 (by kernel_rfl) (fun x => by kernel_rfl)
/- jobshell/jobshellref06.Few -/
def ref06_Few (F : Nat)  (a0 : List TBinding) (a1 : Int) : Option Bool :=
 loopF (σ := Int) (R := Bool) (fun rc2 x1 =>
 (cond (decide (x1 < (a0.length : Int)))
 (some (decide (x1 ≤ a1)))
 (some false) : Option Bool).bind fun x3 =>
 cond x3
 ((rq ((decide (0 ≤ x1)) && (decide (x1 < (a0.length : Int)))) (cond (decide (60 < (((a0.getD (Int.toNat x1) dTBinding).fName).length : Int)))
 (some true)
 (rq ((decide (0 ≤ x1)) && (decide (x1 < (a0.length : Int)))) (some (decide (60 < (((a0.getD (Int.toNat x1) dTBinding).fValue).length : Int)))))) : Option Bool).bind fun x4 =>
 cond x4
 (some false)
 (rc2 (w64 (x1 + 1))))
 (some (decide ((a0.length : Int) ≤ a1)))) F 0
def ref06_Few_s : Shp := ⟨15, [.one (.dat (.lst (.ext 0))), .one (.dat (.int .i64))], [], [], ⟨.one (.dat .bool), [], []⟩, none⟩
def ref06_Few_p : Plan := .seq [] none (.leaf) (.seq [] none (.seq [] none (.leaf) (.loop [] ⟨[(5, .one (.dat (.int .i64)))], [], []⟩ (.seq [] none (.seq [] none (.region [(9, ⟨[(14, .one (.dat .bool))], [], []⟩, false)]) (.leaf)) (.seq [] none (.seq [] none (.region [(16, ⟨[(32, .one (.dat .bool))], [], []⟩, false)]) (.leaf)) (.leaf))))) (.leaf))
def ref06_Few_c (F : Nat) : Ctr E := ⟨ref06_Few_s, fun (x : (List TBinding) × Int) => ref06_Few F x.1 x.2⟩
theorem ref06_Few_ok (F : Nat) : (ref06_Few_c F).Ok Tryz.prog := Ctr.ok_of (X := ⟨Tryz.prog, tyT, []⟩) (F := F) ⟨E_ok, okN, mixed⟩ (pl := ref06_Few_p) Tryz.func15 (by kernel_rfl) (fun x => by kernel_rfl)
/- jobshell/jobshellref05.kids -/
def ref05_kids (F : Nat)  (a0 : Int) : Option Int :=
 (cond (a0 == 1)
 (some true)
 (some (a0 == 2)) : Option Bool).bind fun x1 =>
 cond x1
 (some 0)
 ((cond (decide (3 ≤ a0))
 (some (decide (a0 ≤ 6)))
 (some false) : Option Bool).bind fun x2 =>
 (cond x2
 (some true)
 (some (a0 == 26)) : Option Bool).bind fun x3 =>
 cond x3
 (some 1)
 ((cond (decide (7 ≤ a0))
 (some (decide (a0 ≤ 24)))
 (some false) : Option Bool).bind fun x4 =>
 cond x4
 (some 2)
 (cond (a0 == 25)
 (some 3)
 (some (-1)))))
def ref05_kids_s : Shp := ⟨90, [.one (.dat (.int .i64))], [], [], ⟨.one (.dat (.int .i64)), [], []⟩, none⟩
def ref05_kids_p : Plan := .seq [] none (.leaf) (.seq [] none (.seq [] none (.region [(6, ⟨[(9, .one (.dat .bool))], [], []⟩, false)]) (.cond (.leaf) (.seq [] none (.region [(6, ⟨[(16, .one (.dat .bool))], [], []⟩, false), (4, ⟨[(20, .one (.dat .bool))], [], []⟩, false)]) (.cond (.leaf) (.seq [] none (.region [(6, ⟨[(27, .one (.dat .bool))], [], []⟩, false)]) (.leaf)))))) (.leaf))
def ref05_kids_c (F : Nat) : Ctr E := ⟨ref05_kids_s, fun (x : Int) => ref05_kids F x⟩
theorem ref05_kids_ok (F : Nat) : (ref05_kids_c F).Ok Tryz.prog := Ctr.ok_of (X := ⟨Tryz.prog, tyT, []⟩) (F := F) ⟨E_ok, okN, mixed⟩ (pl := ref05_kids_p) Tryz.func90 (by kernel_rfl) (fun x => by kernel_rfl)
/- jobshell/jobshellref05.compound -/
def ref05_compound (F : Nat)  (a0 : Int) : Option Bool :=
 (cond (a0 == 0)
 (some true)
 (cond (decide (7 ≤ a0))
 (some (decide (a0 ≤ 13)))
 (some false)) : Option Bool).bind fun x1 =>
 (cond x1
 (some true)
 (cond (decide (20 ≤ a0))
 (some (decide (a0 ≤ 22)))
 (some false)) : Option Bool).bind fun x2 =>
 some x2
def ref05_compound_s : Shp := ⟨91, [.one (.dat (.int .i64))], [], [], ⟨.one (.dat .bool), [], []⟩, none⟩
def ref05_compound_p : Plan := .seq [] none (.leaf) (.seq [] none (.region [(10, ⟨[(12, .one (.dat .bool))], [], []⟩, false), (8, ⟨[(20, .one (.dat .bool))], [], []⟩, false)]) (.leaf))
def ref05_compound_c (F : Nat) : Ctr E := ⟨ref05_compound_s, fun (x : Int) => ref05_compound F x⟩
theorem ref05_compound_ok (F : Nat) : (ref05_compound_c F).Ok Tryz.prog := Ctr.ok_of (X := ⟨Tryz.prog, tyT, []⟩) (F := F) ⟨E_ok, okN, mixed⟩ (pl := ref05_compound_p) Tryz.func91 (by kernel_rfl) (fun x => by kernel_rfl)
/- jobshell/jobshellref01.Digit -/
def ref01_Digit (F : Nat)  (a0 : Int) : Option Bool :=
 (cond (decide (48 ≤ a0))
 (some (decide (a0 ≤ 57)))
 (some false) : Option Bool).bind fun x1 =>
 some x1
def ref01_Digit_s : Shp := ⟨123, [.one (.dat (.int .u8))], [], [], ⟨.one (.dat .bool), [], []⟩, none⟩
def ref01_Digit_p : Plan := .seq [] none (.leaf) (.seq [] none (.region [(6, ⟨[(8, .one (.dat .bool))], [], []⟩, false)]) (.leaf))
def ref01_Digit_c (F : Nat) : Ctr E := ⟨ref01_Digit_s, fun (x : Int) => ref01_Digit F x⟩
theorem ref01_Digit_ok (F : Nat) : (ref01_Digit_c F).Ok Tryz.prog := Ctr.ok_of (X := ⟨Tryz.prog, tyT, []⟩) (F := F) ⟨E_ok, okN, mixed⟩ (pl := ref01_Digit_p) Tryz.func123 (by kernel_rfl) (fun x => by kernel_rfl)
/- jobshell/jobshellref01.Letter -/
def ref01_Letter (F : Nat)  (a0 : Int) : Option Bool :=
 (cond (decide (97 ≤ a0))
 (some (decide (a0 ≤ 122)))
 (some false) : Option Bool).bind fun x1 =>
 (cond x1
 (some true)
 (cond (decide (65 ≤ a0))
 (some (decide (a0 ≤ 90)))
 (some false)) : Option Bool).bind fun x2 =>
 some x2
def ref01_Letter_s : Shp := ⟨141, [.one (.dat (.int .u8))], [], [], ⟨.one (.dat .bool), [], []⟩, none⟩
def ref01_Letter_p : Plan := .seq [] none (.leaf) (.seq [] none (.region [(6, ⟨[(8, .one (.dat .bool))], [], []⟩, false), (8, ⟨[(16, .one (.dat .bool))], [], []⟩, false)]) (.leaf))
def ref01_Letter_c (F : Nat) : Ctr E := ⟨ref01_Letter_s, fun (x : Int) => ref01_Letter F x⟩
theorem ref01_Letter_ok (F : Nat) : (ref01_Letter_c F).Ok Tryz.prog := Ctr.ok_of (X := ⟨Tryz.prog, tyT, []⟩) (F := F) ⟨E_ok, okN, mixed⟩ (pl := ref01_Letter_p) Tryz.func141 (by kernel_rfl) (fun x => by kernel_rfl)
/- jobshell/jobshellref01.Word -/
def ref01_Word (F : Nat)  (a0 : Int) : Option Bool :=
 ((ref01_Letter F a0).bind fun x2 =>
 cond x2
 (some true)
 ((ref01_Digit F a0).bind fun x3 =>
 some x3) : Option Bool).bind fun x1 =>
 (cond x1
 (some true)
 (some (a0 == 95)) : Option Bool).bind fun x4 =>
 some x4
def ref01_Word_s : Shp := ⟨124, [.one (.dat (.int .u8))], [], [], ⟨.one (.dat .bool), [], []⟩, none⟩
def ref01_Word_p : Plan := .seq [] none (.leaf) (.seq [] none (.region [(6, ⟨[(8, .one (.dat .bool))], [], []⟩, false), (4, ⟨[(12, .one (.dat .bool))], [], []⟩, false)]) (.leaf))
def ref01_Word_c (F : Nat) : Ctr E := ⟨ref01_Word_s, fun (x : Int) => ref01_Word F x⟩
theorem ref01_Word_ok (F : Nat) : (ref01_Word_c F).Ok Tryz.prog := Ctr.ok_of (X := ⟨Tryz.prog, tyT, [ref01_Letter_c F, ref01_Digit_c F]⟩) (F := F) ⟨E_ok, okC (ref01_Letter_ok F) (okC (ref01_Digit_ok F) (okN)), mixed⟩ (pl := ref01_Word_p) Tryz.func124 (by kernel_rfl) (fun x => by kernel_rfl)
/- jobshell/jobshellref01.Name -/
def ref01_Name (F : Nat)  (a0 : List UInt8) : Option Bool :=
 (cond (a0 == [])
 (some true)
 (some (decide (32 < (a0.length : Int)))) : Option Bool).bind fun x1 =>
 (cond x1
 (some true)
 (rq (decide (0 < (a0.length : Int))) ((ref01_Digit F ((a0.getD 0 0).toNat : Int)).bind fun x3 =>
 some x3)) : Option Bool).bind fun x2 =>
 cond x2
 (some false)
 (loopF (σ := Int) (R := Bool) (fun rc5 x4 =>
 cond (decide (x4 < (a0.length : Int)))
 (rq ((decide (0 ≤ x4)) && (decide (x4 < (a0.length : Int)))) ((ref01_Word F ((a0.getD (Int.toNat x4) 0).toNat : Int)).bind fun x6 =>
 cond (!x6)
 (some false)
 (rc5 (w64 (x4 + 1)))))
 (some true)) F 0)
def ref01_Name_s : Shp := ⟨92, [.one (.dat .str)], [], [], ⟨.one (.dat .bool), [], []⟩, none⟩
def ref01_Name_p : Plan := .seq [] none (.leaf) (.seq [] none (.seq [] none (.region [(7, ⟨[(10, .one (.dat .bool))], [], []⟩, false), (5, ⟨[(15, .one (.dat .bool))], [], []⟩, false)]) (.leaf)) (.seq [] none (.seq [] none (.leaf) (.loop [] ⟨[(3, .one (.dat (.int .i64)))], [], []⟩ (.leaf))) (.leaf)))
def ref01_Name_c (F : Nat) : Ctr E := ⟨ref01_Name_s, fun (x : List UInt8) => ref01_Name F x⟩
theorem ref01_Name_ok (F : Nat) : (ref01_Name_c F).Ok Tryz.prog := Ctr.ok_of (X := ⟨Tryz.prog, tyT, [ref01_Digit_c F, ref01_Word_c F]⟩) (F := F) ⟨E_ok, okC (ref01_Digit_ok F) (okC (ref01_Word_ok F) (okN)), mixed⟩ (pl := ref01_Name_p) Tryz.func92 (by kernel_rfl) (fun x => by kernel_rfl)
/- jobshell/jobshellref05.valid -/
def ref05_valid_m (F : Nat) (r_ref05_valid : TExpr → Int → Option Int) (a0 : TExpr) (a1 : Int) : Option Int :=
 cond (decide (32 ≤ a1))
 (some 5)
 ((cond (a0.fOp == 2)
 (some true)
 (some (a0.fOp == 26)) : Option Bool).bind fun x1 =>
 (ref05_kids F a0.fOp).bind fun x2 =>
 cond ((a0.fKids.length : Int) != x2)
 (some 1)
 (cond (x1 == (a0.fName == []))
 (some 1)
 ((cond (a0.fOp == 1)
 (some (decide (a0.fN < 0)))
 (some false) : Option Bool).bind fun x3 =>
 (cond x3
 (some true)
 (cond (a0.fOp == 26)
 ((ref05_compound F a0.fN).bind fun x5 =>
 some (!x5))
 (some false)) : Option Bool).bind fun x4 =>
 (cond x4
 (some true)
 (cond (a0.fOp != 1)
 (cond (a0.fOp != 26)
 (some (a0.fN != 0))
 (some false))
 (some false)) : Option Bool).bind fun x6 =>
 cond x6
 (some 1)
 ((cond x1
 ((ref01_Name F a0.fName).bind fun x8 =>
 some (!x8))
 (some false) : Option Bool).bind fun x7 =>
 cond x7
 (some 10)
 (loopF (σ := Int) (R := Int) (fun rc10 x9 =>
 cond (decide (x9 < (a0.fKids.length : Int)))
 (rq ((decide (0 ≤ x9)) && (decide (x9 < (a0.fKids.length : Int)))) ((r_ref05_valid (a0.fKids.getD (Int.toNat x9) dTExpr) (w64 (a1 + 1))).bind fun x11 =>
 cond (x11 != 0)
 (some x11)
 (rc10 (w64 (x9 + 1)))))
 (some 0)) F 0)))))
def ref05_valid_s : Shp := ⟨56, [.one (.dat (.ext 1)), .one (.dat (.int .i64))], [], [], ⟨.one (.dat (.int .i64)), [], []⟩, none⟩
def ref05_valid_p : Plan := .seq [] none (.leaf) (.seq [] none (.leaf) (.seq [] none (.region [(8, ⟨[(17, .one (.dat .bool))], [none], []⟩, false)]) (.seq [] none (.seq [] none (.drawP [0] [] [⟨[(0, true), (1, true), (2, true), (3, true), (4, true), (5, false), (6, false), (7, false), (8, true), (9, false), (10, false), (11, false), (12, false), (13, false)], none⟩]) (.leaf)) (.seq [] none (.seq [] none (.region [(8, ⟨[(39, .one (.dat .bool))], [none], []⟩, false), (11, ⟨[(50, .one (.dat .bool))], [none], []⟩, false), (15, ⟨[(65, .one (.dat .bool))], [none], []⟩, false)]) (.leaf)) (.seq [] none (.seq [] none (.region [(7, ⟨[(72, .one (.dat .bool))], [none], []⟩, false)]) (.leaf)) (.seq [] none (.seq [] none (.leaf) (.loop [] ⟨[(6, .one (.dat (.int .i64)))], [none], []⟩ (.leaf))) (.leaf)))))))
def ref05_valid_n (F : Nat) : Nat → TExpr → Int → Option Int
  | 0 => fun _ _ => none
  | n + 1 => ref05_valid_m F (ref05_valid_n F n)
def ref05_valid (F : Nat) (a0 : TExpr) (a1 : Int) : Option Int := ref05_valid_n F F a0 a1
def ref05_valid_cn (F n : Nat) : Ctr E := ⟨ref05_valid_s, fun (x : TExpr × Int) => ref05_valid_n F n x.1 x.2⟩
def ref05_valid_c (F : Nat) : Ctr E := ⟨ref05_valid_s, fun (x : TExpr × Int) => ref05_valid F x.1 x.2⟩
theorem ref05_valid_st (F n : Nat) (h : (ref05_valid_cn F n).Ok Tryz.prog) : (ref05_valid_cn F (n + 1)).Ok Tryz.prog := Ctr.ok_of (X := ⟨Tryz.prog, tyT, [ref05_kids_c F, ref05_compound_c F, ref01_Name_c F, ref05_valid_cn F n]⟩) (F := F) ⟨E_ok, okC (ref05_kids_ok F) (okC (ref05_compound_ok F) (okC (ref01_Name_ok F) (okC h (okN)))), mixed⟩ (pl := ref05_valid_p) Tryz.func56 (by kernel_rfl) (fun x => by kernel_rfl)
theorem ref05_valid_okn (F : Nat) : ∀ n, (ref05_valid_cn F n).Ok Tryz.prog
  | 0 => (fun x y h => nomatch (show none = some y from h))
  | n + 1 => by
    have h := ref05_valid_okn F n
    exact ref05_valid_st F n h
theorem ref05_valid_ok (F : Nat) : (ref05_valid_c F).Ok Tryz.prog := (ref05_valid_okn F F)
/- jobshell/jobshellref05.Valid -/
def ref05_Valid (F : Nat)  (a0 : TExpr) : Option Int :=
 (ref05_valid F (TExpr.mk a0.fOp a0.fN a0.fName a0.fKids) 0).bind fun x1 =>
 some x1
def ref05_Valid_s : Shp := ⟨36, [.one (.dat (.ext 1))], [], [], ⟨.one (.dat (.int .i64)), [], []⟩, none⟩
def ref05_Valid_p : Plan := .leaf
def ref05_Valid_c (F : Nat) : Ctr E := ⟨ref05_Valid_s, fun (x : TExpr) => ref05_Valid F x⟩
theorem ref05_Valid_ok (F : Nat) : (ref05_Valid_c F).Ok Tryz.prog := Ctr.ok_of (X := ⟨Tryz.prog, tyT, [ref05_valid_c F]⟩) (F := F) ⟨E_ok, okC (ref05_valid_ok F) (okN), mixed⟩ (pl := ref05_Valid_p) Tryz.func36 (by kernel_rfl) (fun x => by kernel_rfl)
/- jobshell/jobshellref06.bind -/
def ref06_bind (F : Nat)  (a0 : List TBinding) (a1 : List UInt8) (a2 : List UInt8) : Option (List TBinding) :=
 loopF (σ := (List TBinding) × Bool × Int) (R := List TBinding) (fun rc2 x1 =>
 cond (decide (x1.2.2 < (a0.length : Int)))
 (((cond (!x1.2.1)
 (rq ((decide (0 ≤ x1.2.2)) && (decide (x1.2.2 < (a0.length : Int)))) (some (!(Op.bytesLess ((a0.getD (Int.toNat x1.2.2) dTBinding).fName) a1))))
 (some false) : Option Bool).bind fun x4 =>
 cond x4
 (rq ((decide (x1.1.length + ([(TBinding.mk a1 a2)] : List TBinding).length ≤ 9223372036854775807)) && (decide ((x1.1.length + ([(TBinding.mk a1 a2)] : List TBinding).length) * 32 ≤ 140737488355328))) (some (x1.1 ++ ([(TBinding.mk a1 a2)] : List TBinding), true)))
 (some (x1.1, x1.2.1)) : Option ((List TBinding) × Bool)).bind fun x3 =>
 rq ((decide (0 ≤ x1.2.2)) && (decide (x1.2.2 < (a0.length : Int)))) (cond (!(((a0.getD (Int.toNat x1.2.2) dTBinding).fName) == a1))
 (rq ((decide (0 ≤ x1.2.2)) && (decide (x1.2.2 < (a0.length : Int)))) (rq ((decide (x3.1.length + ([a0.getD (Int.toNat x1.2.2) dTBinding] : List TBinding).length ≤ 9223372036854775807)) && (decide ((x3.1.length + ([a0.getD (Int.toNat x1.2.2) dTBinding] : List TBinding).length) * 32 ≤ 140737488355328))) (rc2 (x3.1 ++ ([a0.getD (Int.toNat x1.2.2) dTBinding] : List TBinding), x3.2, w64 (x1.2.2 + 1)))))
 (rc2 (x3.1, x3.2, w64 (x1.2.2 + 1)))))
 (cond (!x1.2.1)
 (rq ((decide (x1.1.length + ([(TBinding.mk a1 a2)] : List TBinding).length ≤ 9223372036854775807)) && (decide ((x1.1.length + ([(TBinding.mk a1 a2)] : List TBinding).length) * 32 ≤ 140737488355328))) (some (x1.1 ++ ([(TBinding.mk a1 a2)] : List TBinding))))
 (some x1.1))) F (([] : List TBinding), false, 0)
def ref06_bind_s : Shp := ⟨63, [.one (.dat (.lst (.ext 0))), .one (.dat .str), .one (.dat .str)], [], [], ⟨.one (.dat (.lst (.ext 0))), [], []⟩, none⟩
def ref06_bind_p : Plan := .seq [] none (.leaf) (.seq [] none (.leaf) (.seq [.slot 7 48 (.ext 0)] none (.leaf) (.seq [] none (.seq [] none (.leaf) (.loop [] ⟨[(7, .one (.gsl 0 (.ext 0))), (8, .one (.dat .bool)), (9, .one (.dat (.int .i64)))], [], [some (48, 2)]⟩ (.seq [] none (.leaf) (.seq [] none (.seq [] (some (⟨[(7, .one (.gsl 0 (.ext 0))), (8, .one (.dat .bool))], [], [some (48, 2)]⟩, false)) (.seq [] none (.region [(11, ⟨[(26, .one (.dat .bool))], [], [none]⟩, false)]) (.leaf)) (.leaf)) (.leaf))))) (.leaf))))
def ref06_bind_c (F : Nat) : Ctr E := ⟨ref06_bind_s, fun (x : (List TBinding) × (List UInt8) × (List UInt8)) => ref06_bind F x.1 x.2.1 x.2.2⟩
theorem ref06_bind_ok (F : Nat) : (ref06_bind_c F).Ok Tryz.prog := Ctr.ok_of (X := ⟨Tryz.prog, tyT, []⟩) (F := F) ⟨E_ok, okN, mixed⟩ (pl := ref06_bind_p) Tryz.func63 (by kernel_rfl) (fun x => by kernel_rfl)
/- jobshell/jobshellref06.Sorted -/
def ref06_Sorted (F : Nat)  (a0 : List TBinding) : Option (List TBinding) :=
 loopF (σ := (List TBinding) × Int) (R := List TBinding) (fun rc2 x1 =>
 cond (decide (x1.2 < (a0.length : Int)))
 (rq ((decide (0 ≤ x1.2)) && (decide (x1.2 < (a0.length : Int)))) (rq ((decide (0 ≤ x1.2)) && (decide (x1.2 < (a0.length : Int)))) ((ref06_bind F x1.1 ((a0.getD (Int.toNat x1.2) dTBinding).fName) ((a0.getD (Int.toNat x1.2) dTBinding).fValue)).bind fun x3 =>
 rc2 (x3, w64 (x1.2 + 1)))))
 (some x1.1)) F ([], 0)
def ref06_Sorted_s : Shp := ⟨38, [.one (.dat (.lst (.ext 0)))], [], [], ⟨.one (.dat (.lst (.ext 0))), [], []⟩, none⟩
def ref06_Sorted_p : Plan := .seq [] none (.leaf) (.seq [] none (.leaf) (.seq [] none (.seq [] none (.leaf) (.loop [] ⟨[(3, .one (.dat (.lst (.ext 0)))), (4, .one (.dat (.int .i64)))], [], []⟩ (.seq [] none (.leaf) (.seq [] none (.draw [⟨true, 11, none⟩, ⟨false, 2, none⟩]) (.leaf))))) (.leaf)))
def ref06_Sorted_c (F : Nat) : Ctr E := ⟨ref06_Sorted_s, fun (x : List TBinding) => ref06_Sorted F x⟩
theorem ref06_Sorted_ok (F : Nat) : (ref06_Sorted_c F).Ok Tryz.prog := Ctr.ok_of (X := ⟨Tryz.prog, tyT, [ref06_bind_c F]⟩) (F := F) ⟨E_ok, okC (ref06_bind_ok F) (okN), mixed⟩ (pl := ref06_Sorted_p) Tryz.func38 (by kernel_rfl) (fun x => by kernel_rfl)
/- jobshell/jobshellref06.Lookup -/
def ref06_Lookup (F : Nat)  (a0 : List TBinding) (a1 : List UInt8) : Option (List UInt8) :=
 loopF (σ := Int) (R := List UInt8) (fun rc2 x1 =>
 cond (decide (0 ≤ x1))
 (rq ((decide (0 ≤ x1)) && (decide (x1 < (a0.length : Int)))) (cond (((a0.getD (Int.toNat x1) dTBinding).fName) == a1)
 (rq ((decide (0 ≤ x1)) && (decide (x1 < (a0.length : Int)))) (some ((a0.getD (Int.toNat x1) dTBinding).fValue)))
 (rc2 (w64 (x1 - 1)))))
 (some [])) F (w64 ((a0.length : Int) - 1))
def ref06_Lookup_s : Shp := ⟨58, [.one (.dat (.lst (.ext 0))), .one (.dat .str)], [], [], ⟨.one (.dat .str), [], []⟩, none⟩
def ref06_Lookup_p : Plan := .seq [] none (.leaf) (.seq [] none (.seq [] none (.leaf) (.loop [] ⟨[(5, .one (.dat (.int .i64)))], [], []⟩ (.leaf))) (.leaf))
def ref06_Lookup_c (F : Nat) : Ctr E := ⟨ref06_Lookup_s, fun (x : (List TBinding) × (List UInt8)) => ref06_Lookup F x.1 x.2⟩
theorem ref06_Lookup_ok (F : Nat) : (ref06_Lookup_c F).Ok Tryz.prog := Ctr.ok_of (X := ⟨Tryz.prog, tyT, []⟩) (F := F) ⟨E_ok, okN, mixed⟩ (pl := ref06_Lookup_p) Tryz.func58 (by kernel_rfl) (fun x => by kernel_rfl)
/- jobshell/jobshellref06.Value -/
def ref06_Value (F : Nat)  (a0 : List UInt8) : Option (Int × Bool) :=
 cond (a0 == [])
 (some (0, true))
 (rq (decide (0 < (a0.length : Int))) ((cond (((a0.getD 0 0).toNat : Int) == 45)
 (some 9223372036854775808)
 (some 9223372036854775807) : Option Int).bind fun x1 =>
 ((rq (decide (0 < (a0.length : Int))) (cond (((a0.getD 0 0).toNat : Int) == 45)
 (some true)
 (rq (decide (0 < (a0.length : Int))) (some (((a0.getD 0 0).toNat : Int) == 43)))) : Option Bool).bind fun x3 =>
 cond x3
 (rq ((decide (1 ≤ (a0.length : Int))) && (decide ((a0.length : Int) ≤ (a0.length : Int)))) (some (sl a0 1 (a0.length : Int))))
 (some a0) : Option (List UInt8)).bind fun x2 =>
 (ref06_constant F x2).bind fun x4 =>
 (cond (x4.2 != 0)
 (some true)
 (some (decide (x1 < x4.1))) : Option Bool).bind fun x5 =>
 cond x5
 (some (0, false))
 (cond (((a0.getD 0 0).toNat : Int) == 45)
 (some (w64 (IntKind.wrap .u64 (0 - x4.1)), true))
 (some (w64 x4.1, true)))))
def ref06_Value_s : Shp := ⟨57, [.one (.dat .str)], [], [], ⟨.tup [.dat (.int .i64), .dat .bool], [], []⟩, none⟩
def ref06_Value_p : Plan := .seq [] none (.leaf) (.seq [] none (.leaf) (.seq [] none (.leaf) (.seq [] none (.leaf) (.seq [] (some (⟨[(4, .one (.dat (.int .u64)))], [], []⟩, false)) (.leaf) (.seq [] (some (⟨[(0, .one (.dat .str))], [], []⟩, false)) (.seq [] none (.region [(8, ⟨[(23, .one (.dat .bool))], [], []⟩, false)]) (.leaf)) (.seq [] none (.leaf) (.seq [] none (.seq [] none (.region [(7, ⟨[(37, .one (.dat .bool))], [], []⟩, false)]) (.leaf)) (.leaf))))))))
def ref06_Value_c (F : Nat) : Ctr E := ⟨ref06_Value_s, fun (x : List UInt8) => ref06_Value F x⟩
theorem ref06_Value_ok (F : Nat) : (ref06_Value_c F).Ok Tryz.prog := Ctr.ok_of (X := ⟨Tryz.prog, tyT, [ref06_constant_c F]⟩) (F := F) ⟨E_ok, okC (ref06_constant_ok F) (okN), mixed⟩ (pl := ref06_Value_p) Tryz.func57 (by kernel_rfl) (fun x => by kernel_rfl)
/- jobshell/jobshellref06.truth -/
def ref06_truth (F : Nat)  (a0 : Bool) : Option Int :=
 cond a0
 (some 1)
 (some 0)
def ref06_truth_s : Shp := ⟨61, [.one (.dat .bool)], [], [], ⟨.one (.dat (.int .i64)), [], []⟩, none⟩
def ref06_truth_p : Plan := .leaf
def ref06_truth_c (F : Nat) : Ctr E := ⟨ref06_truth_s, fun (x : Bool) => ref06_truth F x⟩
theorem ref06_truth_ok (F : Nat) : (ref06_truth_c F).Ok Tryz.prog := Ctr.ok_of (X := ⟨Tryz.prog, tyT, []⟩) (F := F) ⟨E_ok, okN, mixed⟩ (pl := ref06_truth_p) Tryz.func61 (by kernel_rfl) (fun x => by kernel_rfl)
/- jobshell/jobshellref06.one -/
def ref06_one (F : Nat)  (a0 : Int) (a1 : Int) : Option Int :=
 cond (a0 == 3)
 (some (w64 (0 - a1)))
 (cond (a0 == 5)
 ((ref06_truth F (a1 == 0)).bind fun x1 =>
 some x1)
 (cond (a0 == 6)
 (some (w64 ((w64 (0 - a1)) - 1)))
 (some a1)))
def ref06_one_s : Shp := ⟨59, [.one (.dat (.int .i64)), .one (.dat (.int .i64))], [], [], ⟨.one (.dat (.int .i64)), [], []⟩, none⟩
def ref06_one_p : Plan := .leaf
def ref06_one_c (F : Nat) : Ctr E := ⟨ref06_one_s, fun (x : Int × Int) => ref06_one F x.1 x.2⟩
theorem ref06_one_ok (F : Nat) : (ref06_one_c F).Ok Tryz.prog := Ctr.ok_of (X := ⟨Tryz.prog, tyT, [ref06_truth_c F]⟩) (F := F) ⟨E_ok, okC (ref06_truth_ok F) (okN), mixed⟩ (pl := ref06_one_p) Tryz.func59 (by kernel_rfl) (fun x => by kernel_rfl)
/- jobshell/jobshellref06.holds -/
def ref06_holds (F : Nat)  (a0 : Int) (a1 : Int) (a2 : Int) : Option Bool :=
 cond (a0 == 14)
 (some (decide (a1 < a2)))
 (cond (a0 == 15)
 (some (decide (a2 < a1)))
 (cond (a0 == 16)
 (some (decide (a1 ≤ a2)))
 (cond (a0 == 17)
 (some (decide (a2 ≤ a1)))
 (cond (a0 == 18)
 (some (a1 == a2))
 (some (a1 != a2))))))
def ref06_holds_s : Shp := ⟨93, [.one (.dat (.int .i64)), .one (.dat (.int .i64)), .one (.dat (.int .i64))], [], [], ⟨.one (.dat .bool), [], []⟩, none⟩
def ref06_holds_p : Plan := .leaf
def ref06_holds_c (F : Nat) : Ctr E := ⟨ref06_holds_s, fun (x : Int × Int × Int) => ref06_holds F x.1 x.2.1 x.2.2⟩
theorem ref06_holds_ok (F : Nat) : (ref06_holds_c F).Ok Tryz.prog := Ctr.ok_of (X := ⟨Tryz.prog, tyT, []⟩) (F := F) ⟨E_ok, okN, mixed⟩ (pl := ref06_holds_p) Tryz.func93 (by kernel_rfl) (fun x => by kernel_rfl)
/- jobshell/jobshellref06.two -/
def ref06_two (F : Nat)  (a0 : Int) (a1 : Int) (a2 : Int) : Option (Int × Int) :=
 (cond (a0 == 8)
 (some true)
 (some (a0 == 9)) : Option Bool).bind fun x1 =>
 (cond x1
 (some (a2 == 0))
 (some false) : Option Bool).bind fun x2 =>
 cond x2
 (some (0, 13))
 (cond (a0 == 7)
 (some (w64 (a1 * a2), 0))
 (cond (a0 == 8)
 (rq (!(a2 == 0)) (some (w64 (Int.tdiv a1 a2), 0)))
 (cond (a0 == 9)
 (rq (!(a2 == 0)) (some (Int.tmod a1 a2, 0)))
 (cond (a0 == 10)
 (some (w64 (a1 + a2), 0))
 (cond (a0 == 11)
 (some (w64 (a1 - a2), 0))
 (cond (a0 == 12)
 (rq (decide (0 ≤ IntKind.wrap .u64 (bAnd .i64 a2 63))) (some (bShl .i64 a1 (IntKind.wrap .u64 (bAnd .i64 a2 63)), 0)))
 (cond (a0 == 13)
 (rq (decide (0 ≤ IntKind.wrap .u64 (bAnd .i64 a2 63))) (some (bShr .i64 a1 (IntKind.wrap .u64 (bAnd .i64 a2 63)), 0)))
 (cond (a0 == 20)
 (some (bAnd .i64 a1 a2, 0))
 (cond (a0 == 21)
 (some (bXor .i64 a1 a2, 0))
 (cond (a0 == 22)
 (some (bOr .i64 a1 a2, 0))
 ((ref06_holds F a0 a1 a2).bind fun x3 =>
 (ref06_truth F x3).bind fun x4 =>
 some (x4, 0))))))))))))
def ref06_two_s : Shp := ⟨62, [.one (.dat (.int .i64)), .one (.dat (.int .i64)), .one (.dat (.int .i64))], [], [], ⟨.tup [.dat (.int .i64), .dat (.int .i64)], [], []⟩, none⟩
def ref06_two_p : Plan := .seq [] none (.leaf) (.seq [] none (.seq [] none (.region [(6, ⟨[(13, .one (.dat .bool))], [], []⟩, false), (4, ⟨[(17, .one (.dat .bool))], [], []⟩, false)]) (.leaf)) (.leaf))
def ref06_two_c (F : Nat) : Ctr E := ⟨ref06_two_s, fun (x : Int × Int × Int) => ref06_two F x.1 x.2.1 x.2.2⟩
theorem ref06_two_ok (F : Nat) : (ref06_two_c F).Ok Tryz.prog := Ctr.ok_of (X := ⟨Tryz.prog, tyT, [ref06_holds_c F, ref06_truth_c F]⟩) (F := F) ⟨E_ok, okC (ref06_holds_ok F) (okC (ref06_truth_ok F) (okN)), mixed⟩ (pl := ref06_two_p) Tryz.func62 (by kernel_rfl) (fun x => by kernel_rfl)
/- jobshell/jobshellref05.digits -/
def ref05_digits (F : Nat)  (a0 : Int) : Option (List UInt8) :=
 loopF (σ := Int × (List UInt8)) (R := List UInt8) (fun rc2 x1 =>
 cond (decide (9 < x1.1))
 (rq (decide ((toBytes ([IntKind.wrap .u8 (IntKind.wrap .u64 (48 + (Int.tmod x1.1 10)))] : List Int)).length + x1.2.length ≤ 9223372036854775807)) (rc2 (IntKind.wrap .u64 (Int.tdiv x1.1 10), (toBytes ([IntKind.wrap .u8 (IntKind.wrap .u64 (48 + (Int.tmod x1.1 10)))] : List Int)) ++ x1.2)))
 (rq (decide ((toBytes ([IntKind.wrap .u8 (IntKind.wrap .u64 (48 + x1.1))] : List Int)).length + x1.2.length ≤ 9223372036854775807)) (some ((toBytes ([IntKind.wrap .u8 (IntKind.wrap .u64 (48 + x1.1))] : List Int)) ++ x1.2)))) F (a0, [])
def ref05_digits_s : Shp := ⟨44, [.one (.dat (.int .u64))], [], [], ⟨.one (.dat .str), [], []⟩, none⟩
def ref05_digits_p : Plan := .seq [] none (.leaf) (.seq [] none (.leaf) (.seq [] none (.loop [] ⟨[(0, .one (.dat (.int .u64))), (3, .one (.dat .str))], [], []⟩ (.leaf)) (.leaf)))
def ref05_digits_c (F : Nat) : Ctr E := ⟨ref05_digits_s, fun (x : Int) => ref05_digits F x⟩
theorem ref05_digits_ok (F : Nat) : (ref05_digits_c F).Ok Tryz.prog := Ctr.ok_of (X := ⟨Tryz.prog, tyT, []⟩) (F := F) ⟨E_ok, okN, mixed⟩ (pl := ref05_digits_p) Tryz.func44 (by kernel_rfl) (fun x => by kernel_rfl)
/- jobshell/jobshellref05.Decimal -/
def ref05_Decimal (F : Nat)  (a0 : Int) : Option (List UInt8) :=
 cond (decide (a0 < 0))
 ((ref05_digits F (IntKind.wrap .u64 ((IntKind.wrap .u64 (w64 (0 - (w64 (a0 + 1))))) + 1))).bind fun x1 =>
 rq (decide (([45] : List UInt8).length + x1.length ≤ 9223372036854775807)) (some (([45] : List UInt8) ++ x1)))
 ((ref05_digits F (IntKind.wrap .u64 a0)).bind fun x2 =>
 some x2)
def ref05_Decimal_s : Shp := ⟨24, [.one (.dat (.int .i64))], [], [], ⟨.one (.dat .str), [], []⟩, none⟩
def ref05_Decimal_p : Plan := .leaf
def ref05_Decimal_c (F : Nat) : Ctr E := ⟨ref05_Decimal_s, fun (x : Int) => ref05_Decimal F x⟩
theorem ref05_Decimal_ok (F : Nat) : (ref05_Decimal_c F).Ok Tryz.prog := Ctr.ok_of (X := ⟨Tryz.prog, tyT, [ref05_digits_c F]⟩) (F := F) ⟨E_ok, okC (ref05_digits_ok F) (okN), mixed⟩ (pl := ref05_Decimal_p) Tryz.func24 (by kernel_rfl) (fun x => by kernel_rfl)
/- jobshell/jobshellref06.set -/
def ref06_set (F : Nat)  (a0 : TExpr) (a1 : Int) (a2 : List TBinding) : Option (Int × (List TBinding) × Int) :=
 jj (σ := Int) (R := Int × (List TBinding) × Int) (cond (a0.fN != 0)
 ((ref06_Lookup F a2 a0.fName).bind fun x2 =>
 (ref06_Value F x2).bind fun x3 =>
 cond (!x3.2)
 (some (.inr (0, a2, 1)))
 ((ref06_two F a0.fN x3.1 a1).bind fun x4 =>
 cond (x4.2 != 0)
 (some (.inr (0, a2, x4.2)))
 (some (.inl x4.1))))
 (some (.inl a1))) fun x1 =>
 (ref05_Decimal F x1).bind fun x5 =>
 (ref06_bind F a2 a0.fName x5).bind fun x6 =>
 some (x1, x6, 0)
def ref06_set_s : Shp := ⟨60, [.one (.dat (.ext 1)), .one (.dat (.int .i64)), .one (.dat (.lst (.ext 0)))], [], [], ⟨.tup [.dat (.int .i64), .dat (.lst (.ext 0)), .dat (.int .i64)], [], []⟩, none⟩
def ref06_set_p : Plan := .seq [] none (.leaf) (.seq [] (some (⟨[(1, .one (.dat (.int .i64)))], [none], []⟩, true)) (.leaf) (.seq [] none (.drawP [0] [] [⟨[(0, true), (1, true), (2, true), (3, true), (4, true), (5, false), (6, false), (7, false), (8, false), (9, false)], none⟩]) (.leaf)))
def ref06_set_c (F : Nat) : Ctr E := ⟨ref06_set_s, fun (x : TExpr × Int × (List TBinding)) => ref06_set F x.1 x.2.1 x.2.2⟩
theorem ref06_set_ok (F : Nat) : (ref06_set_c F).Ok Tryz.prog := Ctr.ok_of (X := ⟨Tryz.prog, tyT, [ref06_Lookup_c F, ref06_Value_c F, ref06_two_c F, ref05_Decimal_c F, ref06_bind_c F]⟩) (F := F) ⟨E_ok, okC (ref06_Lookup_ok F) (okC (ref06_Value_ok F) (okC (ref06_two_ok F) (okC (ref05_Decimal_ok F) (okC (ref06_bind_ok F) (okN))))), mixed⟩ (pl := ref06_set_p) Tryz.func60 (by kernel_rfl) (fun x => by kernel_rfl)
/- jobshell/jobshellref06.eval -/
def ref06_eval_m (F : Nat) (r_ref06_eval : TExpr → (List TBinding) → Option (Int × (List TBinding) × Int)) (a0 : TExpr) (a1 : List TBinding) : Option (Int × (List TBinding) × Int) :=
 cond (a0.fOp == 1)
 (some (a0.fN, a1, 0))
 (cond (a0.fOp == 2)
 ((ref06_Lookup F a1 a0.fName).bind fun x1 =>
 (ref06_Value F x1).bind fun x2 =>
 cond (!x2.2)
 (some (0, a1, 1))
 (some (x2.1, a1, 0)))
 (rq (decide (0 < (a0.fKids.length : Int))) ((r_ref06_eval (a0.fKids.getD 0 dTExpr) a1).bind fun x3 =>
 cond (x3.2.2 != 0)
 (some (0, x3.2.1, x3.2.2))
 ((cond (decide (3 ≤ a0.fOp))
 (some (decide (a0.fOp ≤ 6)))
 (some false) : Option Bool).bind fun x4 =>
 cond x4
 ((ref06_one F a0.fOp x3.1).bind fun x5 =>
 some (x5, x3.2.1, 0))
 (cond (a0.fOp == 26)
 ((ref06_set F (TExpr.mk a0.fOp a0.fN a0.fName a0.fKids) x3.1 x3.2.1).bind fun x6 =>
 some (x6.1, x6.2.1, x6.2.2))
 ((cond (a0.fOp == 25)
 (some (x3.1 != 0))
 (some false) : Option Bool).bind fun x7 =>
 cond x7
 (rq (decide (1 < (a0.fKids.length : Int))) ((r_ref06_eval (a0.fKids.getD 1 dTExpr) x3.2.1).bind fun x8 =>
 some (x8.1, x8.2.1, x8.2.2)))
 (cond (a0.fOp == 25)
 (rq (decide (2 < (a0.fKids.length : Int))) ((r_ref06_eval (a0.fKids.getD 2 dTExpr) x3.2.1).bind fun x9 =>
 some (x9.1, x9.2.1, x9.2.2)))
 ((cond (a0.fOp == 23)
 (some (x3.1 == 0))
 (some false) : Option Bool).bind fun x10 =>
 cond x10
 (some (0, x3.2.1, 0))
 ((cond (a0.fOp == 24)
 (some (x3.1 != 0))
 (some false) : Option Bool).bind fun x11 =>
 cond x11
 (some (1, x3.2.1, 0))
 (rq (decide (1 < (a0.fKids.length : Int))) ((r_ref06_eval (a0.fKids.getD 1 dTExpr) x3.2.1).bind fun x12 =>
 cond (x12.2.2 != 0)
 (some (0, x12.2.1, x12.2.2))
 ((cond (a0.fOp == 23)
 (some true)
 (some (a0.fOp == 24)) : Option Bool).bind fun x13 =>
 cond x13
 ((ref06_truth F (x12.1 != 0)).bind fun x14 =>
 some (x14, x12.2.1, 0))
 ((ref06_two F a0.fOp x3.1 x12.1).bind fun x15 =>
 some (x15.1, x12.2.1, x15.2))))))))))))))
def ref06_eval_s : Shp := ⟨37, [.one (.dat (.ext 1)), .one (.dat (.lst (.ext 0)))], [], [], ⟨.tup [.dat (.int .i64), .dat (.lst (.ext 0)), .dat (.int .i64)], [], []⟩, none⟩
def ref06_eval_p : Plan := .seq [] none (.leaf) (.seq [] none (.leaf) (.seq [] none (.leaf) (.seq [] none (.leaf) (.seq [] none (.leaf) (.seq [] none (.seq [] none (.region [(8, ⟨[(57, .one (.dat .bool))], [none], []⟩, false)]) (.cond (.leaf) (.seq [] none (.leaf) (.cond (.leaf) (.seq [] none (.region [(7, ⟨[(81, .one (.dat .bool))], [none], []⟩, false)]) (.cond (.leaf) (.seq [] none (.leaf) (.cond (.leaf) (.seq [] none (.region [(7, ⟨[(111, .one (.dat .bool))], [none], []⟩, false)]) (.cond (.leaf) (.seq [] none (.region [(7, ⟨[(120, .one (.dat .bool))], [none], []⟩, false)]) (.leaf)))))))))))) (.seq [] none (.leaf) (.seq [] none (.leaf) (.seq [] none (.seq [] none (.region [(8, ⟨[(143, .one (.dat .bool))], [none], []⟩, false)]) (.leaf)) (.leaf)))))))))
def ref06_eval_n (F : Nat) : Nat → TExpr → (List TBinding) → Option (Int × (List TBinding) × Int)
  | 0 => fun _ _ => none
  | n + 1 => ref06_eval_m F (ref06_eval_n F n)
def ref06_eval (F : Nat) (a0 : TExpr) (a1 : List TBinding) : Option (Int × (List TBinding) × Int) := ref06_eval_n F F a0 a1
def ref06_eval_cn (F n : Nat) : Ctr E := ⟨ref06_eval_s, fun (x : TExpr × (List TBinding)) => ref06_eval_n F n x.1 x.2⟩
def ref06_eval_c (F : Nat) : Ctr E := ⟨ref06_eval_s, fun (x : TExpr × (List TBinding)) => ref06_eval F x.1 x.2⟩
theorem ref06_eval_st (F n : Nat) (h : (ref06_eval_cn F n).Ok Tryz.prog) : (ref06_eval_cn F (n + 1)).Ok Tryz.prog := Ctr.ok_of (X := ⟨Tryz.prog, tyT, [ref06_Lookup_c F, ref06_Value_c F, ref06_eval_cn F n, ref06_one_c F, ref06_set_c F, ref06_truth_c F, ref06_two_c F]⟩) (F := F) ⟨E_ok, okC (ref06_Lookup_ok F) (okC (ref06_Value_ok F) (okC h (okC (ref06_one_ok F) (okC (ref06_set_ok F) (okC (ref06_truth_ok F) (okC (ref06_two_ok F) (okN))))))), mixed⟩ (pl := ref06_eval_p) Tryz.func37 (by kernel_rfl) (fun x => by kernel_rfl)
theorem ref06_eval_okn (F : Nat) : ∀ n, (ref06_eval_cn F n).Ok Tryz.prog
  | 0 => (fun x y h => nomatch (show none = some y from h))
  | n + 1 => by
    have h := ref06_eval_okn F n
    exact ref06_eval_st F n h
theorem ref06_eval_ok (F : Nat) : (ref06_eval_c F).Ok Tryz.prog := (ref06_eval_okn F F)
/- jobshell/jobshellref06.Eval -/
def ref06_Eval (F : Nat)  (a0 : TExpr) (a1 : List TBinding) : Option (Int × (List TBinding) × Int) :=
 (ref05_Valid F (TExpr.mk a0.fOp a0.fN a0.fName a0.fKids)).bind fun x1 =>
 cond (x1 != 0)
 (some (0, [], x1))
 ((ref06_Sorted F a1).bind fun x2 =>
 (ref06_eval F (TExpr.mk a0.fOp a0.fN a0.fName a0.fKids) x2).bind fun x3 =>
 cond (x3.2.2 != 0)
 (some (0, [], x3.2.2))
 (some (x3.1, x3.2.1, 0)))
def ref06_Eval_s : Shp := ⟨17, [.one (.dat (.ext 1)), .one (.dat (.lst (.ext 0)))], [], [], ⟨.tup [.dat (.int .i64), .dat (.lst (.ext 0)), .dat (.int .i64)], [], []⟩, none⟩
def ref06_Eval_p : Plan := .seq [] none (.leaf) (.seq [] none (.leaf) (.seq [] none (.drawP [0] [] [⟨[(0, true), (1, true), (2, false), (3, false), (4, false), (5, true), (6, true), (7, true), (8, false), (9, false), (10, false)], none⟩]) (.leaf)))
def ref06_Eval_c (F : Nat) : Ctr E := ⟨ref06_Eval_s, fun (x : TExpr × (List TBinding)) => ref06_Eval F x.1 x.2⟩
theorem ref06_Eval_ok (F : Nat) : (ref06_Eval_c F).Ok Tryz.prog := Ctr.ok_of (X := ⟨Tryz.prog, tyT, [ref05_Valid_c F, ref06_Sorted_c F, ref06_eval_c F]⟩) (F := F) ⟨E_ok, okC (ref05_Valid_ok F) (okC (ref06_Sorted_ok F) (okC (ref06_eval_ok F) (okN))), mixed⟩ (pl := ref06_Eval_p) Tryz.func17 (by kernel_rfl) (fun x => by kernel_rfl)
/- jobshell/jobshellref06.SameBindings -/
def ref06_SameBindings (F : Nat)  (a0 : List TBinding) (a1 : List TBinding) : Option Bool :=
 cond ((a0.length : Int) != (a1.length : Int))
 (some false)
 (loopF (σ := Int) (R := Bool) (fun rc2 x1 =>
 cond (decide (x1 < (a0.length : Int)))
 (rq ((decide (0 ≤ x1)) && (decide (x1 < (a0.length : Int)))) (rq ((decide (0 ≤ x1)) && (decide (x1 < (a1.length : Int)))) (cond (!(((a0.getD (Int.toNat x1) dTBinding).fName == (a1.getD (Int.toNat x1) dTBinding).fName) && (((a0.getD (Int.toNat x1) dTBinding).fValue == (a1.getD (Int.toNat x1) dTBinding).fValue) && true)))
 (some false)
 (rc2 (w64 (x1 + 1))))))
 (some true)) F 0)
def ref06_SameBindings_s : Shp := ⟨18, [.one (.dat (.lst (.ext 0))), .one (.dat (.lst (.ext 0)))], [], [], ⟨.one (.dat .bool), [], []⟩, none⟩
def ref06_SameBindings_p : Plan := .seq [] none (.leaf) (.seq [] none (.leaf) (.seq [] none (.seq [] none (.leaf) (.loop [] ⟨[(5, .one (.dat (.int .i64)))], [], []⟩ (.seq [] none (.leaf) (.seq [] none (.seq [] none (.draw [⟨true, 9, none⟩]) (.leaf)) (.leaf))))) (.leaf)))
def ref06_SameBindings_c (F : Nat) : Ctr E := ⟨ref06_SameBindings_s, fun (x : (List TBinding) × (List TBinding)) => ref06_SameBindings F x.1 x.2⟩
theorem ref06_SameBindings_ok (F : Nat) : (ref06_SameBindings_c F).Ok Tryz.prog := Ctr.ok_of (X := ⟨Tryz.prog, tyT, []⟩) (F := F) ⟨E_ok, okN, mixed⟩ (pl := ref06_SameBindings_p) Tryz.func18 (by kernel_rfl) (fun x => by kernel_rfl)
/- jobshell/jobshelllaw06.CalcEvals -/
def law06_CalcEvals (F : Nat)  (a0 : TExpr) (a1 : List TBinding) : Option Bool :=
 ((ref05_Small F (TExpr.mk a0.fOp a0.fN a0.fName a0.fKids) 60).bind fun x2 =>
 cond (!x2)
 (some true)
 ((ref06_Few F a1 12).bind fun x3 =>
 some (!x3)) : Option Bool).bind fun x1 =>
 cond x1
 ((law06_awake 60).bind fun x4 =>
 some x4)
 ((calc_Eval F (TExpr.mk a0.fOp a0.fN a0.fName a0.fKids) a1).bind fun x5 =>
 (ref06_Eval F (TExpr.mk a0.fOp a0.fN a0.fName a0.fKids) a1).bind fun x6 =>
 (cond (x5.1 == x6.1)
 ((ref06_SameBindings F x5.2.1 x6.2.1).bind fun x8 =>
 some x8)
 (some false) : Option Bool).bind fun x7 =>
 (cond x7
 (some (x5.2.2 == x6.2.2))
 (some false) : Option Bool).bind fun x9 =>
 (cond x9
 ((law06_awake 60).bind fun x11 =>
 some x11)
 (some false) : Option Bool).bind fun x10 =>
 some x10)
def law06_CalcEvals_s : Shp := ⟨4, [.one (.dat (.ext 1)), .one (.dat (.lst (.ext 0)))], [], [], ⟨.one (.dat .bool), [], []⟩, none⟩
def law06_CalcEvals_p : Plan := .seq [] none (.leaf) (.seq [] none (.seq [] none (.region [(8, ⟨[(18, .one (.dat .bool))], [none], []⟩, false)]) (.leaf)) (.seq [] none (.leaf) (.seq [] none (.leaf) (.seq [] none (.region [(8, ⟨[(41, .one (.dat .bool))], [none], []⟩, false), (5, ⟨[(46, .one (.dat .bool))], [none], []⟩, false), (3, ⟨[(49, .one (.dat .bool))], [none], []⟩, false)]) (.leaf)))))
def law06_CalcEvals_c (F : Nat) : Ctr E := ⟨law06_CalcEvals_s, fun (x : TExpr × (List TBinding)) => law06_CalcEvals F x.1 x.2⟩
theorem law06_CalcEvals_ok (F : Nat) : (law06_CalcEvals_c F).Ok Tryz.prog := Ctr.ok_of (X := ⟨Tryz.prog, tyT, [ref05_Small_c F, ref06_Few_c F, law06_awake_c 60, calc_Eval_c F, ref06_Eval_c F, ref06_SameBindings_c F]⟩) (F := F) ⟨E_ok, okC (ref05_Small_ok F) (okC (ref06_Few_ok F) (okC (law06_awake_ok 60) (okC (calc_Eval_ok F) (okC (ref06_Eval_ok F) (okC (ref06_SameBindings_ok F) (okN)))))), mixed⟩ (pl := law06_CalcEvals_p) Tryz.func4 (by kernel_rfl) (fun x => by kernel_rfl)
/- (*jobshell/jobshellref05.reader).blanks -/
def ref05_reader_blanks (F : Nat)  (a0 : List UInt8) (a1 : Int) (a2 : Int) (a3 : Int) : Option ((List UInt8) × Int × Int × Int) :=
 loopF (σ := (List UInt8) × Int × Int × Int) (R := (List UInt8) × Int × Int × Int) (fun rc2 x1 =>
 (cond (decide (x1.2.1 < (x1.1.length : Int)))
 (rq ((decide (0 ≤ x1.2.1)) && (decide (x1.2.1 < (x1.1.length : Int)))) (cond (((x1.1.getD (Int.toNat x1.2.1) 0).toNat : Int) == 9)
 (some true)
 (rq ((decide (0 ≤ x1.2.1)) && (decide (x1.2.1 < (x1.1.length : Int)))) (cond (((x1.1.getD (Int.toNat x1.2.1) 0).toNat : Int) == 10)
 (some true)
 (rq ((decide (0 ≤ x1.2.1)) && (decide (x1.2.1 < (x1.1.length : Int)))) (some (((x1.1.getD (Int.toNat x1.2.1) 0).toNat : Int) == 32)))))))
 (some false) : Option Bool).bind fun x3 =>
 cond x3
 (rc2 (x1.1, w64 (x1.2.1 + 1), x1.2.2.1, x1.2.2.2))
 (some (x1.1, x1.2.1, x1.2.2.1, x1.2.2.2))) F (a0, a1, a2, a3)
def ref05_reader_blanks_s : Shp := ⟨69, [.one (.ptr 0 0)], [.cells 103 [.dat .str, .dat (.int .i64), .dat (.int .i64), .dat (.int .i64)]], [], ⟨.tup [], [some (.cells 103 [.dat .str, .dat (.int .i64), .dat (.int .i64), .dat (.int .i64)])], []⟩, none⟩
def ref05_reader_blanks_p : Plan := .loop [] ⟨[], [some (.cells 103 [.dat .str, .dat (.int .i64), .dat (.int .i64), .dat (.int .i64)])], []⟩ (.seq [] none (.seq [] none (.draw [⟨true, 46, some ⟨[(47, .one (.dat .bool))], [none], []⟩⟩]) (.leaf)) (.leaf))
def ref05_reader_blanks_c (F : Nat) : Ctr E := ⟨ref05_reader_blanks_s, fun (x : (List UInt8) × Int × Int × Int) => ref05_reader_blanks F x.1 x.2.1 x.2.2.1 x.2.2.2⟩
theorem ref05_reader_blanks_ok (F : Nat) : (ref05_reader_blanks_c F).Ok Tryz.prog := Ctr.ok_of (X := ⟨Tryz.prog, tyT, []⟩) (F := F) ⟨E_ok, okN, mixed⟩ (pl := ref05_reader_blanks_p) Tryz.func69 (by kernel_rfl) (fun x => by kernel_rfl)
/- jobshell/jobshellref05.Letter -/
def ref05_Letter (F : Nat)  (a0 : Int) : Option Bool :=
 (cond (decide (97 ≤ a0))
 (some (decide (a0 ≤ 122)))
 (some false) : Option Bool).bind fun x1 =>
 (cond x1
 (some true)
 (cond (decide (65 ≤ a0))
 (some (decide (a0 ≤ 90)))
 (some false)) : Option Bool).bind fun x2 =>
 (cond x2
 (some true)
 (some (a0 == 95)) : Option Bool).bind fun x3 =>
 some x3
def ref05_Letter_s : Shp := ⟨103, [.one (.dat (.int .u8))], [], [], ⟨.one (.dat .bool), [], []⟩, none⟩
def ref05_Letter_p : Plan := .seq [] none (.leaf) (.seq [] none (.region [(6, ⟨[(8, .one (.dat .bool))], [], []⟩, false), (8, ⟨[(16, .one (.dat .bool))], [], []⟩, false), (4, ⟨[(20, .one (.dat .bool))], [], []⟩, false)]) (.leaf))
def ref05_Letter_c (F : Nat) : Ctr E := ⟨ref05_Letter_s, fun (x : Int) => ref05_Letter F x⟩
theorem ref05_Letter_ok (F : Nat) : (ref05_Letter_c F).Ok Tryz.prog := Ctr.ok_of (X := ⟨Tryz.prog, tyT, []⟩) (F := F) ⟨E_ok, okN, mixed⟩ (pl := ref05_Letter_p) Tryz.func103 (by kernel_rfl) (fun x => by kernel_rfl)
/- (*jobshell/jobshellref05.reader).word -/
def ref05_reader_word (F : Nat)  (a0 : List UInt8) (a1 : Int) (a2 : Int) (a3 : Int) : Option (List UInt8) :=
 loopF (σ := Int) (R := List UInt8) (fun rc2 x1 =>
 (cond (decide (x1 < (a0.length : Int)))
 (rq ((decide (0 ≤ x1)) && (decide (x1 < (a0.length : Int)))) ((ref05_Letter F ((a0.getD (Int.toNat x1) 0).toNat : Int)).bind fun x4 =>
 cond x4
 (some true)
 (rq ((decide (0 ≤ x1)) && (decide (x1 < (a0.length : Int)))) ((ref05_digit F ((a0.getD (Int.toNat x1) 0).toNat : Int)).bind fun x5 =>
 some x5))))
 (some false) : Option Bool).bind fun x3 =>
 cond x3
 (rc2 (w64 (x1 + 1)))
 (rq ((decide (0 ≤ a1)) && ((decide (a1 ≤ x1)) && (decide (x1 ≤ (a0.length : Int))))) (some (sl a0 a1 x1)))) F a1
def ref05_reader_word_s : Shp := ⟨102, [.one (.ptr 0 0)], [.cells 103 [.dat .str, .dat (.int .i64), .dat (.int .i64), .dat (.int .i64)]], [], ⟨.one (.dat .str), [none], []⟩, none⟩
def ref05_reader_word_p : Plan := .seq [] none (.leaf) (.seq [] none (.leaf) (.seq [] none (.loop [] ⟨[(3, .one (.dat (.int .i64)))], [none], []⟩ (.seq [] none (.seq [] none (.region [(25, ⟨[(32, .one (.dat .bool))], [none], []⟩, false)]) (.leaf)) (.leaf))) (.seq [] none (.draw [⟨true, 11, none⟩]) (.leaf))))
def ref05_reader_word_c (F : Nat) : Ctr E := ⟨ref05_reader_word_s, fun (x : (List UInt8) × Int × Int × Int) => ref05_reader_word F x.1 x.2.1 x.2.2.1 x.2.2.2⟩
theorem ref05_reader_word_ok (F : Nat) : (ref05_reader_word_c F).Ok Tryz.prog := Ctr.ok_of (X := ⟨Tryz.prog, tyT, [ref05_Letter_c F, ref05_digit_c F]⟩) (F := F) ⟨E_ok, okC (ref05_Letter_ok F) (okC (ref05_digit_ok F) (okN)), mixed⟩ (pl := ref05_reader_word_p) Tryz.func102 (by kernel_rfl) (fun x => by kernel_rfl)
/- jobshell/jobshellref05.operators -/
def ref05_operators (F : Nat)   : Option (List (List UInt8)) :=
 some ([([60, 60, 61] : List UInt8), ([62, 62, 61] : List UInt8), ([60, 60] : List UInt8), ([62, 62] : List UInt8), ([60, 61] : List UInt8), ([62, 61] : List UInt8), ([61, 61] : List UInt8), ([33, 61] : List UInt8), ([38, 38] : List UInt8), ([124, 124] : List UInt8), ([43, 61] : List UInt8), ([45, 61] : List UInt8), ([42, 61] : List UInt8), ([47, 61] : List UInt8), ([37, 61] : List UInt8), ([38, 61] : List UInt8), ([94, 61] : List UInt8), ([124, 61] : List UInt8), ([43] : List UInt8), ([45] : List UInt8), ([42] : List UInt8), ([47] : List UInt8), ([37] : List UInt8), ([60] : List UInt8), ([62] : List UInt8), ([38] : List UInt8), ([94] : List UInt8), ([124] : List UInt8), ([33] : List UInt8), ([126] : List UInt8), ([63] : List UInt8), ([58] : List UInt8), ([40] : List UInt8), ([41] : List UInt8), ([61] : List UInt8)] : List (List UInt8))
def ref05_operators_s : Shp := ⟨131, [], [], [], ⟨.one (.dat (.lst .str)), [], []⟩, none⟩
def ref05_operators_p : Plan := .leaf
def ref05_operators_c (F : Nat) : Ctr E := ⟨ref05_operators_s, fun (x : Unit) => ref05_operators F ⟩
theorem ref05_operators_ok (F : Nat) : (ref05_operators_c F).Ok Tryz.prog := Ctr.ok_of (X := ⟨Tryz.prog, tyT, []⟩) (F := F) ⟨E_ok, okN, mixed⟩ (pl := ref05_operators_p) Tryz.func131 (by kernel_rfl) (fun x => by kernel_rfl)
/- (*jobshell/jobshellref05.reader).operator -/
def ref05_reader_operator (F : Nat)  (a0 : List UInt8) (a1 : Int) (a2 : Int) (a3 : Int) : Option ((List UInt8) × (List UInt8) × Int × Int × Int) :=
 (ref05_reader_blanks F a0 a1 a2 a3).bind fun x1 =>
 (ref05_operators F).bind fun x2 =>
 loopF (σ := Int) (R := (List UInt8) × (List UInt8) × Int × Int × Int) (fun rc4 x3 =>
 cond (decide (x3 < (x2.length : Int)))
 (rq ((decide (0 ≤ x3)) && (decide (x3 < (x2.length : Int)))) ((cond (decide (((x2.getD (Int.toNat x3) []).length : Int) ≤ w64 ((x1.1.length : Int) - x1.2.1)))
 (rq ((decide (0 ≤ x1.2.1)) && ((decide (x1.2.1 ≤ w64 (x1.2.1 + ((x2.getD (Int.toNat x3) []).length : Int)))) && (decide (w64 (x1.2.1 + ((x2.getD (Int.toNat x3) []).length : Int)) ≤ (x1.1.length : Int))))) (rq ((decide (0 ≤ x3)) && (decide (x3 < (x2.length : Int)))) (some ((sl x1.1 x1.2.1 (w64 (x1.2.1 + ((x2.getD (Int.toNat x3) []).length : Int)))) == (x2.getD (Int.toNat x3) [])))))
 (some false) : Option Bool).bind fun x5 =>
 cond x5
 (rq ((decide (0 ≤ x3)) && (decide (x3 < (x2.length : Int)))) (some (x2.getD (Int.toNat x3) [], x1.1, x1.2.1, x1.2.2.1, x1.2.2.2)))
 (rc4 (w64 (x3 + 1)))))
 (some ([], x1.1, x1.2.1, x1.2.2.1, x1.2.2.2))) F 0
def ref05_reader_operator_s : Shp := ⟨104, [.one (.ptr 0 0)], [.cells 103 [.dat .str, .dat (.int .i64), .dat (.int .i64), .dat (.int .i64)]], [], ⟨.one (.dat .str), [some (.cells 103 [.dat .str, .dat (.int .i64), .dat (.int .i64), .dat (.int .i64)])], []⟩, none⟩
def ref05_reader_operator_p : Plan := .seq [] none (.leaf) (.seq [] none (.leaf) (.seq [] none (.leaf) (.seq [] none (.seq [] none (.leaf) (.loop [] ⟨[(4, .one (.dat (.int .i64)))], [none], []⟩ (.seq [] none (.leaf) (.seq [] none (.seq [] none (.leaf) (.seq [] none (.draw [⟨true, 34, some ⟨[(53, .one (.dat .bool))], [none], []⟩⟩]) (.leaf))) (.leaf))))) (.leaf))))
def ref05_reader_operator_c (F : Nat) : Ctr E := ⟨ref05_reader_operator_s, fun (x : (List UInt8) × Int × Int × Int) => ref05_reader_operator F x.1 x.2.1 x.2.2.1 x.2.2.2⟩
theorem ref05_reader_operator_ok (F : Nat) : (ref05_reader_operator_c F).Ok Tryz.prog := Ctr.ok_of (X := ⟨Tryz.prog, tyT, [ref05_reader_blanks_c F, ref05_operators_c F]⟩) (F := F) ⟨E_ok, okC (ref05_reader_blanks_ok F) (okC (ref05_operators_ok F) (okN)), mixed⟩ (pl := ref05_reader_operator_p) Tryz.func104 (by kernel_rfl) (fun x => by kernel_rfl)
/- jobshell/jobshellref05.assigning -/
def ref05_assigning (F : Nat)  (a0 : List UInt8) : Option Int :=
 loopF (σ := Int) (R := Int) (fun rc2 x1 =>
 cond (decide (x1 < (([([61] : List UInt8), ([43, 61] : List UInt8), ([45, 61] : List UInt8), ([42, 61] : List UInt8), ([47, 61] : List UInt8), ([37, 61] : List UInt8), ([60, 60, 61] : List UInt8), ([62, 62, 61] : List UInt8), ([38, 61] : List UInt8), ([94, 61] : List UInt8), ([124, 61] : List UInt8)] : List (List UInt8)).length : Int)))
 (rq ((decide (0 ≤ x1)) && (decide (x1 < (([([61] : List UInt8), ([43, 61] : List UInt8), ([45, 61] : List UInt8), ([42, 61] : List UInt8), ([47, 61] : List UInt8), ([37, 61] : List UInt8), ([60, 60, 61] : List UInt8), ([62, 62, 61] : List UInt8), ([38, 61] : List UInt8), ([94, 61] : List UInt8), ([124, 61] : List UInt8)] : List (List UInt8)).length : Int)))) (cond ((([([61] : List UInt8), ([43, 61] : List UInt8), ([45, 61] : List UInt8), ([42, 61] : List UInt8), ([47, 61] : List UInt8), ([37, 61] : List UInt8), ([60, 60, 61] : List UInt8), ([62, 62, 61] : List UInt8), ([38, 61] : List UInt8), ([94, 61] : List UInt8), ([124, 61] : List UInt8)] : List (List UInt8)).getD (Int.toNat x1) []) == a0)
 (rq ((decide (0 ≤ x1)) && (decide (x1 < (([0, 10, 11, 7, 8, 9, 12, 13, 20, 21, 22] : List Int).length : Int)))) (some (([0, 10, 11, 7, 8, 9, 12, 13, 20, 21, 22] : List Int).getD (Int.toNat x1) 0)))
 (rc2 (w64 (x1 + 1)))))
 (some (-1))) F 0
def ref05_assigning_s : Shp := ⟨105, [.one (.dat .str)], [], [], ⟨.one (.dat (.int .i64)), [], []⟩, none⟩
def ref05_assigning_p : Plan := .seq [] none (.leaf) (.seq [] none (.leaf) (.seq [] none (.leaf) (.seq [] none (.seq [] none (.leaf) (.loop [] ⟨[(5, .one (.dat (.int .i64)))], [], [none, none]⟩ (.leaf))) (.leaf))))
def ref05_assigning_c (F : Nat) : Ctr E := ⟨ref05_assigning_s, fun (x : List UInt8) => ref05_assigning F x⟩
theorem ref05_assigning_ok (F : Nat) : (ref05_assigning_c F).Ok Tryz.prog := Ctr.ok_of (X := ⟨Tryz.prog, tyT, []⟩) (F := F) ⟨E_ok, okN, mixed⟩ (pl := ref05_assigning_p) Tryz.func105 (by kernel_rfl) (fun x => by kernel_rfl)
/- (*jobshell/jobshellref05.reader).fail -/
def ref05_reader_fail (F : Nat)  (a0 : Int) (a1 : Int) (a2 : List UInt8) (a3 : Int) (a4 : Int) (a5 : Int) : Option ((List UInt8) × Int × Int × Int) :=
 cond (a4 == 0)
 (some (a2, a3, a0, a1))
 (some (a2, a3, a4, a5))
def ref05_reader_fail_s : Shp := ⟨71, [.one (.ptr 0 0), .one (.dat (.int .i64)), .one (.dat (.int .i64))], [.cells 103 [.dat .str, .dat (.int .i64), .dat (.int .i64), .dat (.int .i64)]], [], ⟨.tup [], [some (.cells 103 [.dat .str, .dat (.int .i64), .dat (.int .i64), .dat (.int .i64)])], []⟩, none⟩
def ref05_reader_fail_p : Plan := .leaf
def ref05_reader_fail_c (F : Nat) : Ctr E := ⟨ref05_reader_fail_s, fun (x : Int × Int × (List UInt8) × Int × Int × Int) => ref05_reader_fail F x.1 x.2.1 x.2.2.1 x.2.2.2.1 x.2.2.2.2.1 x.2.2.2.2.2⟩
theorem ref05_reader_fail_ok (F : Nat) : (ref05_reader_fail_c F).Ok Tryz.prog := Ctr.ok_of (X := ⟨Tryz.prog, tyT, []⟩) (F := F) ⟨E_ok, okN, mixed⟩ (pl := ref05_reader_fail_p) Tryz.func71 (by kernel_rfl) (fun x => by kernel_rfl)
/- jobshell/jobshellref05.sign -/
def ref05_sign (F : Nat)  (a0 : Int) : Option (List UInt8) :=
 (cond (decide (a0 < 3))
 (some true)
 (some (decide (24 < a0))) : Option Bool).bind fun x1 =>
 cond x1
 (some [])
 (rq ((decide (0 ≤ w64 (a0 - 3))) && (decide (w64 (a0 - 3) < (([([45] : List UInt8), ([43] : List UInt8), ([33] : List UInt8), ([126] : List UInt8), ([42] : List UInt8), ([47] : List UInt8), ([37] : List UInt8), ([43] : List UInt8), ([45] : List UInt8), ([60, 60] : List UInt8), ([62, 62] : List UInt8), ([60] : List UInt8), ([62] : List UInt8), ([60, 61] : List UInt8), ([62, 61] : List UInt8), ([61, 61] : List UInt8), ([33, 61] : List UInt8), ([38] : List UInt8), ([94] : List UInt8), ([124] : List UInt8), ([38, 38] : List UInt8), ([124, 124] : List UInt8)] : List (List UInt8)).length : Int)))) (some (([([45] : List UInt8), ([43] : List UInt8), ([33] : List UInt8), ([126] : List UInt8), ([42] : List UInt8), ([47] : List UInt8), ([37] : List UInt8), ([43] : List UInt8), ([45] : List UInt8), ([60, 60] : List UInt8), ([62, 62] : List UInt8), ([60] : List UInt8), ([62] : List UInt8), ([60, 61] : List UInt8), ([62, 61] : List UInt8), ([61, 61] : List UInt8), ([33, 61] : List UInt8), ([38] : List UInt8), ([94] : List UInt8), ([124] : List UInt8), ([38, 38] : List UInt8), ([124, 124] : List UInt8)] : List (List UInt8)).getD (Int.toNat (w64 (a0 - 3))) [])))
def ref05_sign_s : Shp := ⟨155, [.one (.dat (.int .i64))], [], [], ⟨.one (.dat .str), [], []⟩, none⟩
def ref05_sign_p : Plan := .seq [] none (.leaf) (.seq [] none (.leaf) (.seq [] none (.seq [] none (.region [(6, ⟨[(10, .one (.dat .bool))], [], [none]⟩, false)]) (.leaf)) (.leaf)))
def ref05_sign_c (F : Nat) : Ctr E := ⟨ref05_sign_s, fun (x : Int) => ref05_sign F x⟩
theorem ref05_sign_ok (F : Nat) : (ref05_sign_c F).Ok Tryz.prog := Ctr.ok_of (X := ⟨Tryz.prog, tyT, []⟩) (F := F) ⟨E_ok, okN, mixed⟩ (pl := ref05_sign_p) Tryz.func155 (by kernel_rfl) (fun x => by kernel_rfl)
/- (*jobshell/jobshellref05.reader).is -/
def ref05_reader_is (F : Nat)  (a0 : List UInt8) (a1 : List UInt8) (a2 : Int) (a3 : Int) (a4 : Int) : Option (Bool × (List UInt8) × Int × Int × Int) :=
 (cond (a3 != 0)
 (some (true, a1, a2, a3, a4))
 ((ref05_reader_operator F a1 a2 a3 a4).bind fun x2 =>
 some (!(x2.1 == a0), x2.2.1, x2.2.2.1, x2.2.2.2.1, x2.2.2.2.2)) : Option (Bool × (List UInt8) × Int × Int × Int)).bind fun x1 =>
 cond x1.1
 (some (false, x1.2.1, x1.2.2.1, x1.2.2.2.1, x1.2.2.2.2))
 (some (true, x1.2.1, w64 (x1.2.2.1 + (a0.length : Int)), x1.2.2.2.1, x1.2.2.2.2))
def ref05_reader_is_s : Shp := ⟨133, [.one (.ptr 0 0), .one (.dat .str)], [.cells 103 [.dat .str, .dat (.int .i64), .dat (.int .i64), .dat (.int .i64)]], [], ⟨.one (.dat .bool), [some (.cells 103 [.dat .str, .dat (.int .i64), .dat (.int .i64), .dat (.int .i64)])], []⟩, none⟩
def ref05_reader_is_p : Plan := .seq [] none (.leaf) (.seq [] none (.seq [] none (.region [(11, ⟨[(15, .one (.dat .bool))], [some (.cells 103 [.dat .str, .dat (.int .i64), .dat (.int .i64), .dat (.int .i64)])], []⟩, false)]) (.leaf)) (.leaf))
def ref05_reader_is_c (F : Nat) : Ctr E := ⟨ref05_reader_is_s, fun (x : (List UInt8) × (List UInt8) × Int × Int × Int) => ref05_reader_is F x.1 x.2.1 x.2.2.1 x.2.2.2.1 x.2.2.2.2⟩
theorem ref05_reader_is_ok (F : Nat) : (ref05_reader_is_c F).Ok Tryz.prog := Ctr.ok_of (X := ⟨Tryz.prog, tyT, [ref05_reader_operator_c F]⟩) (F := F) ⟨E_ok, okC (ref05_reader_operator_ok F) (okN), mixed⟩ (pl := ref05_reader_is_p) Tryz.func133 (by kernel_rfl) (fun x => by kernel_rfl)
/- jobshell/jobshellref05.Level -/
def ref05_Level (F : Nat)  (a0 : Int) : Option Int :=
 cond (a0 == 26)
 (some 1)
 (cond (a0 == 25)
 (some 2)
 (cond (a0 == 24)
 (some 3)
 (cond (a0 == 23)
 (some 4)
 (cond (a0 == 22)
 (some 5)
 (cond (a0 == 21)
 (some 6)
 (cond (a0 == 20)
 (some 7)
 ((cond (a0 == 18)
 (some true)
 (some (a0 == 19)) : Option Bool).bind fun x1 =>
 cond x1
 (some 8)
 ((cond (decide (14 ≤ a0))
 (some (decide (a0 ≤ 17)))
 (some false) : Option Bool).bind fun x2 =>
 cond x2
 (some 9)
 ((cond (a0 == 12)
 (some true)
 (some (a0 == 13)) : Option Bool).bind fun x3 =>
 cond x3
 (some 10)
 ((cond (a0 == 10)
 (some true)
 (some (a0 == 11)) : Option Bool).bind fun x4 =>
 cond x4
 (some 11)
 ((cond (decide (7 ≤ a0))
 (some (decide (a0 ≤ 9)))
 (some false) : Option Bool).bind fun x5 =>
 cond x5
 (some 12)
 ((cond (decide (3 ≤ a0))
 (some (decide (a0 ≤ 6)))
 (some false) : Option Bool).bind fun x6 =>
 cond x6
 (some 13)
 (some 14)))))))))))))
def ref05_Level_s : Shp := ⟨157, [.one (.dat (.int .i64))], [], [], ⟨.one (.dat (.int .i64)), [], []⟩, none⟩
def ref05_Level_p : Plan := .seq [] none (.leaf) (.seq [] none (.seq [] none (.leaf) (.cond (.leaf) (.seq [] none (.leaf) (.cond (.leaf) (.seq [] none (.leaf) (.cond (.leaf) (.seq [] none (.leaf) (.cond (.leaf) (.seq [] none (.leaf) (.cond (.leaf) (.seq [] none (.leaf) (.cond (.leaf) (.seq [] none (.leaf) (.cond (.leaf) (.seq [] none (.region [(6, ⟨[(30, .one (.dat .bool))], [], []⟩, false)]) (.cond (.leaf) (.seq [] none (.region [(6, ⟨[(37, .one (.dat .bool))], [], []⟩, false)]) (.cond (.leaf) (.seq [] none (.region [(6, ⟨[(44, .one (.dat .bool))], [], []⟩, false)]) (.cond (.leaf) (.seq [] none (.region [(6, ⟨[(51, .one (.dat .bool))], [], []⟩, false)]) (.cond (.leaf) (.seq [] none (.region [(6, ⟨[(58, .one (.dat .bool))], [], []⟩, false)]) (.cond (.leaf) (.seq [] none (.region [(6, ⟨[(65, .one (.dat .bool))], [], []⟩, false)]) (.leaf)))))))))))))))))))))))))) (.leaf))
def ref05_Level_c (F : Nat) : Ctr E := ⟨ref05_Level_s, fun (x : Int) => ref05_Level F x⟩
theorem ref05_Level_ok (F : Nat) : (ref05_Level_c F).Ok Tryz.prog := Ctr.ok_of (X := ⟨Tryz.prog, tyT, []⟩) (F := F) ⟨E_ok, okN, mixed⟩ (pl := ref05_Level_p) Tryz.func157 (by kernel_rfl) (fun x => by kernel_rfl)
/- jobshell/jobshellref05.binary -/
def ref05_binary (F : Nat)  (a0 : List UInt8) (a1 : Int) : Option Int :=
 loopF (σ := Int) (R := Int) (fun rc2 x1 =>
 cond (decide (x1 ≤ 24))
 (((ref05_sign F x1).bind fun x4 =>
 cond (x4 == a0)
 ((ref05_Level F x1).bind fun x5 =>
 some (x5 == a1))
 (some false) : Option Bool).bind fun x3 =>
 cond x3
 (some x1)
 (rc2 (w64 (x1 + 1))))
 (some 0)) F 7
def ref05_binary_s : Shp := ⟨148, [.one (.dat .str), .one (.dat (.int .i64))], [], [], ⟨.one (.dat (.int .i64)), [], []⟩, none⟩
def ref05_binary_p : Plan := .seq [] none (.leaf) (.seq [] none (.seq [] none (.leaf) (.loop [] ⟨[(5, .one (.dat (.int .i64)))], [], []⟩ (.seq [] none (.leaf) (.seq [] none (.seq [] none (.region [(10, ⟨[(19, .one (.dat .bool))], [], []⟩, false)]) (.leaf)) (.leaf))))) (.leaf))
def ref05_binary_c (F : Nat) : Ctr E := ⟨ref05_binary_s, fun (x : (List UInt8) × Int) => ref05_binary F x.1 x.2⟩
theorem ref05_binary_ok (F : Nat) : (ref05_binary_c F).Ok Tryz.prog := Ctr.ok_of (X := ⟨Tryz.prog, tyT, [ref05_sign_c F, ref05_Level_c F]⟩) (F := F) ⟨E_ok, okC (ref05_sign_ok F) (okC (ref05_Level_ok F) (okN)), mixed⟩ (pl := ref05_binary_p) Tryz.func148 (by kernel_rfl) (fun x => by kernel_rfl)
/- (*jobshell/jobshellref05.reader).set -/
def ref05_reader_set_m (F : Nat) (r_ref05_reader_set : (List UInt8) → Int → Int → Int → Option (TExpr × (List UInt8) × Int × Int × Int)) (r_ref05_reader_cond : (List UInt8) → Int → Int → Int → Option (TExpr × (List UInt8) × Int × Int × Int)) (r_ref05_reader_level : Int → (List UInt8) → Int → Int → Int → Option (TExpr × (List UInt8) × Int × Int × Int)) (r_ref05_reader_unary : (List UInt8) → Int → Int → Int → Option (TExpr × (List UInt8) × Int × Int × Int)) (r_ref05_reader_primary : (List UInt8) → Int → Int → Int → Option (TExpr × (List UInt8) × Int × Int × Int)) (a0 : List UInt8) (a1 : Int) (a2 : Int) (a3 : Int) : Option (TExpr × (List UInt8) × Int × Int × Int) :=
 (ref05_reader_blanks F a0 a1 a2 a3).bind fun x1 =>
 (ref05_reader_word F x1.1 x1.2.1 x1.2.2.1 x1.2.2.2).bind fun x2 =>
 jj (σ := (List UInt8) × Int × Int × Int) (R := TExpr × (List UInt8) × Int × Int × Int) ((cond (!(x2 == []))
 (rq (decide (0 < (x2.length : Int))) ((ref05_Letter F ((x2.getD 0 0).toNat : Int)).bind fun x5 =>
 some x5))
 (some false) : Option Bool).bind fun x4 =>
 cond x4
 ((ref05_reader_operator F x1.1 (w64 (x1.2.1 + (x2.length : Int))) x1.2.2.1 x1.2.2.2).bind fun x6 =>
 (ref05_assigning F x6.1).bind fun x7 =>
 cond (decide (0 ≤ x7))
 (((ref01_Name F x2).bind fun x9 =>
 cond (!x9)
 ((ref05_reader_fail F 10 x1.2.1 x6.2.1 x6.2.2.1 x6.2.2.2.1 x6.2.2.2.2).bind fun x10 =>
 some (x10.1, x10.2.1, x10.2.2.1, x10.2.2.2))
 (some (x6.2.1, x6.2.2.1, x6.2.2.2.1, x6.2.2.2.2)) : Option ((List UInt8) × Int × Int × Int)).bind fun x8 =>
 (ref05_assigning F x6.1).bind fun x11 =>
 (r_ref05_reader_set x8.1 (w64 (x8.2.1 + (x6.1.length : Int))) x8.2.2.1 x8.2.2.2).bind fun x12 =>
 some (.inr ((TExpr.mk ((TExpr.mk 26 x11 x2 ([x12.1] : List TExpr)).fOp) ((TExpr.mk 26 x11 x2 ([x12.1] : List TExpr)).fN) ((TExpr.mk 26 x11 x2 ([x12.1] : List TExpr)).fName) ((TExpr.mk 26 x11 x2 ([x12.1] : List TExpr)).fKids)), x12.2.1, x12.2.2.1, x12.2.2.2.1, x12.2.2.2.2)))
 (some (.inl (x6.2.1, x1.2.1, x6.2.2.2.1, x6.2.2.2.2))))
 (some (.inl (x1.1, x1.2.1, x1.2.2.1, x1.2.2.2)))) fun x3 =>
 (r_ref05_reader_cond x3.1 x3.2.1 x3.2.2.1 x3.2.2.2).bind fun x13 =>
 some ((TExpr.mk x13.1.fOp x13.1.fN x13.1.fName x13.1.fKids), x13.2.1, x13.2.2.1, x13.2.2.2.1, x13.2.2.2.2)
def ref05_reader_set_s : Shp := ⟨70, [.one (.ptr 0 0)], [.cells 103 [.dat .str, .dat (.int .i64), .dat (.int .i64), .dat (.int .i64)]], [], ⟨.one (.dat (.ext 1)), [some (.cells 103 [.dat .str, .dat (.int .i64), .dat (.int .i64), .dat (.int .i64)])], []⟩, none⟩
def ref05_reader_set_p : Plan := .seq [] none (.leaf) (.seq [] none (.leaf) (.seq [] none (.leaf) (.seq [] none (.leaf) (.seq [] (some (⟨[], [some (.cells 103 [.dat .str, .dat (.int .i64), .dat (.int .i64), .dat (.int .i64)]), none], []⟩, true)) (.seq [] none (.region [(7, ⟨[(20, .one (.dat .bool))], [none, none], []⟩, false)]) (.cond (.seq [] none (.leaf) (.seq [] none (.seq [] none (.leaf) (.seq [] none (.leaf) (.cond (.seq [] (some (⟨[], [some (.cells 103 [.dat .str, .dat (.int .i64), .dat (.int .i64), .dat (.int .i64)]), none], []⟩, false)) (.leaf) (.leaf)) (.leaf)))) (.leaf))) (.leaf))) (.leaf)))))
/- (*jobshell/jobshellref05.reader).cond -/
def ref05_reader_cond_m (F : Nat) (r_ref05_reader_set : (List UInt8) → Int → Int → Int → Option (TExpr × (List UInt8) × Int × Int × Int)) (r_ref05_reader_cond : (List UInt8) → Int → Int → Int → Option (TExpr × (List UInt8) × Int × Int × Int)) (r_ref05_reader_level : Int → (List UInt8) → Int → Int → Int → Option (TExpr × (List UInt8) × Int × Int × Int)) (r_ref05_reader_unary : (List UInt8) → Int → Int → Int → Option (TExpr × (List UInt8) × Int × Int × Int)) (r_ref05_reader_primary : (List UInt8) → Int → Int → Int → Option (TExpr × (List UInt8) × Int × Int × Int)) (a0 : List UInt8) (a1 : Int) (a2 : Int) (a3 : Int) : Option (TExpr × (List UInt8) × Int × Int × Int) :=
 (r_ref05_reader_level 3 a0 a1 a2 a3).bind fun x1 =>
 (ref05_reader_is F ([63] : List UInt8) x1.2.1 x1.2.2.1 x1.2.2.2.1 x1.2.2.2.2).bind fun x2 =>
 cond (!x2.1)
 (some ((TExpr.mk ((TExpr.mk x1.1.fOp x1.1.fN x1.1.fName x1.1.fKids).fOp) ((TExpr.mk x1.1.fOp x1.1.fN x1.1.fName x1.1.fKids).fN) ((TExpr.mk x1.1.fOp x1.1.fN x1.1.fName x1.1.fKids).fName) ((TExpr.mk x1.1.fOp x1.1.fN x1.1.fName x1.1.fKids).fKids)), x2.2.1, x2.2.2.1, x2.2.2.2.1, x2.2.2.2.2))
 ((r_ref05_reader_set x2.2.1 x2.2.2.1 x2.2.2.2.1 x2.2.2.2.2).bind fun x3 =>
 (ref05_reader_is F ([58] : List UInt8) x3.2.1 x3.2.2.1 x3.2.2.2.1 x3.2.2.2.2).bind fun x4 =>
 cond (!x4.1)
 ((ref05_reader_fail F 6 x4.2.2.1 x4.2.1 x4.2.2.1 x4.2.2.2.1 x4.2.2.2.2).bind fun x5 =>
 some ((TExpr.mk ((TExpr.mk x1.1.fOp x1.1.fN x1.1.fName x1.1.fKids).fOp) ((TExpr.mk x1.1.fOp x1.1.fN x1.1.fName x1.1.fKids).fN) ((TExpr.mk x1.1.fOp x1.1.fN x1.1.fName x1.1.fKids).fName) ((TExpr.mk x1.1.fOp x1.1.fN x1.1.fName x1.1.fKids).fKids)), x5.1, x5.2.1, x5.2.2.1, x5.2.2.2))
 ((r_ref05_reader_cond x4.2.1 x4.2.2.1 x4.2.2.2.1 x4.2.2.2.2).bind fun x6 =>
 some ((TExpr.mk ((TExpr.mk 25 0 [] ([(TExpr.mk x1.1.fOp x1.1.fN x1.1.fName x1.1.fKids), (TExpr.mk x3.1.fOp x3.1.fN x3.1.fName x3.1.fKids), x6.1] : List TExpr)).fOp) ((TExpr.mk 25 0 [] ([(TExpr.mk x1.1.fOp x1.1.fN x1.1.fName x1.1.fKids), (TExpr.mk x3.1.fOp x3.1.fN x3.1.fName x3.1.fKids), x6.1] : List TExpr)).fN) ((TExpr.mk 25 0 [] ([(TExpr.mk x1.1.fOp x1.1.fN x1.1.fName x1.1.fKids), (TExpr.mk x3.1.fOp x3.1.fN x3.1.fName x3.1.fKids), x6.1] : List TExpr)).fName) ((TExpr.mk 25 0 [] ([(TExpr.mk x1.1.fOp x1.1.fN x1.1.fName x1.1.fKids), (TExpr.mk x3.1.fOp x3.1.fN x3.1.fName x3.1.fKids), x6.1] : List TExpr)).fKids)), x6.2.1, x6.2.2.1, x6.2.2.2.1, x6.2.2.2.2)))
def ref05_reader_cond_s : Shp := ⟨106, [.one (.ptr 0 0)], [.cells 103 [.dat .str, .dat (.int .i64), .dat (.int .i64), .dat (.int .i64)]], [], ⟨.one (.dat (.ext 1)), [some (.cells 103 [.dat .str, .dat (.int .i64), .dat (.int .i64), .dat (.int .i64)])], []⟩, none⟩
def ref05_reader_cond_p : Plan := .seq [] none (.leaf) (.seq [] none (.leaf) (.seq [] none (.leaf) (.seq [] none (.leaf) (.seq [] none (.leaf) (.seq [] none (.drawP [2, 3] [] [⟨[(0, true), (1, true), (2, true), (3, false), (4, false), (5, false), (6, false)], none⟩]) (.leaf))))))
/- (*jobshell/jobshellref05.reader).level -/
def ref05_reader_level_m (F : Nat) (r_ref05_reader_set : (List UInt8) → Int → Int → Int → Option (TExpr × (List UInt8) × Int × Int × Int)) (r_ref05_reader_cond : (List UInt8) → Int → Int → Int → Option (TExpr × (List UInt8) × Int × Int × Int)) (r_ref05_reader_level : Int → (List UInt8) → Int → Int → Int → Option (TExpr × (List UInt8) × Int × Int × Int)) (r_ref05_reader_unary : (List UInt8) → Int → Int → Int → Option (TExpr × (List UInt8) × Int × Int × Int)) (r_ref05_reader_primary : (List UInt8) → Int → Int → Int → Option (TExpr × (List UInt8) × Int × Int × Int)) (a0 : Int) (a1 : List UInt8) (a2 : Int) (a3 : Int) (a4 : Int) : Option (TExpr × (List UInt8) × Int × Int × Int) :=
 cond (decide (12 < a0))
 ((r_ref05_reader_unary a1 a2 a3 a4).bind fun x1 =>
 some ((TExpr.mk x1.1.fOp x1.1.fN x1.1.fName x1.1.fKids), x1.2.1, x1.2.2.1, x1.2.2.2.1, x1.2.2.2.2))
 ((r_ref05_reader_level (w64 (a0 + 1)) a1 a2 a3 a4).bind fun x2 =>
 loopF (σ := (List UInt8) × Int × Int × Int × Int × Int × (List UInt8) × (List TExpr)) (R := TExpr × (List UInt8) × Int × Int × Int) (fun rc4 x3 =>
 cond (x3.2.2.1 == 0)
 ((ref05_reader_operator F x3.1 x3.2.1 x3.2.2.1 x3.2.2.2.1).bind fun x5 =>
 (ref05_binary F x5.1 a0).bind fun x6 =>
 cond (x6 == 0)
 (some ((TExpr.mk ((TExpr.mk x3.2.2.2.2.1 x3.2.2.2.2.2.1 x3.2.2.2.2.2.2.1 x3.2.2.2.2.2.2.2).fOp) ((TExpr.mk x3.2.2.2.2.1 x3.2.2.2.2.2.1 x3.2.2.2.2.2.2.1 x3.2.2.2.2.2.2.2).fN) ((TExpr.mk x3.2.2.2.2.1 x3.2.2.2.2.2.1 x3.2.2.2.2.2.2.1 x3.2.2.2.2.2.2.2).fName) ((TExpr.mk x3.2.2.2.2.1 x3.2.2.2.2.2.1 x3.2.2.2.2.2.2.1 x3.2.2.2.2.2.2.2).fKids)), x5.2.1, x5.2.2.1, x5.2.2.2.1, x5.2.2.2.2))
 ((r_ref05_reader_level (w64 (a0 + 1)) x5.2.1 (w64 (x5.2.2.1 + (x5.1.length : Int))) x5.2.2.2.1 x5.2.2.2.2).bind fun x7 =>
 rc4 (x7.2.1, x7.2.2.1, x7.2.2.2.1, x7.2.2.2.2, (TExpr.mk x6 0 [] ([(TExpr.mk x3.2.2.2.2.1 x3.2.2.2.2.2.1 x3.2.2.2.2.2.2.1 x3.2.2.2.2.2.2.2), x7.1] : List TExpr)).fOp, (TExpr.mk x6 0 [] ([(TExpr.mk x3.2.2.2.2.1 x3.2.2.2.2.2.1 x3.2.2.2.2.2.2.1 x3.2.2.2.2.2.2.2), x7.1] : List TExpr)).fN, (TExpr.mk x6 0 [] ([(TExpr.mk x3.2.2.2.2.1 x3.2.2.2.2.2.1 x3.2.2.2.2.2.2.1 x3.2.2.2.2.2.2.2), x7.1] : List TExpr)).fName, (TExpr.mk x6 0 [] ([(TExpr.mk x3.2.2.2.2.1 x3.2.2.2.2.2.1 x3.2.2.2.2.2.2.1 x3.2.2.2.2.2.2.2), x7.1] : List TExpr)).fKids)))
 (some ((TExpr.mk ((TExpr.mk x3.2.2.2.2.1 x3.2.2.2.2.2.1 x3.2.2.2.2.2.2.1 x3.2.2.2.2.2.2.2).fOp) ((TExpr.mk x3.2.2.2.2.1 x3.2.2.2.2.2.1 x3.2.2.2.2.2.2.1 x3.2.2.2.2.2.2.2).fN) ((TExpr.mk x3.2.2.2.2.1 x3.2.2.2.2.2.1 x3.2.2.2.2.2.2.1 x3.2.2.2.2.2.2.2).fName) ((TExpr.mk x3.2.2.2.2.1 x3.2.2.2.2.2.1 x3.2.2.2.2.2.2.1 x3.2.2.2.2.2.2.2).fKids)), x3.1, x3.2.1, x3.2.2.1, x3.2.2.2.1))) F (x2.2.1, x2.2.2.1, x2.2.2.2.1, x2.2.2.2.2, x2.1.fOp, x2.1.fN, x2.1.fName, x2.1.fKids))
def ref05_reader_level_s : Shp := ⟨132, [.one (.ptr 0 0), .one (.dat (.int .i64))], [.cells 103 [.dat .str, .dat (.int .i64), .dat (.int .i64), .dat (.int .i64)]], [], ⟨.one (.dat (.ext 1)), [some (.cells 103 [.dat .str, .dat (.int .i64), .dat (.int .i64), .dat (.int .i64)])], []⟩, none⟩
def ref05_reader_level_p : Plan := .seq [] none (.leaf) (.seq [] none (.leaf) (.seq [] none (.leaf) (.seq [] none (.loop [] ⟨[], [some (.cells 103 [.dat .str, .dat (.int .i64), .dat (.int .i64), .dat (.int .i64)]), none, some (.cells 31 [.dat (.int .i64), .dat (.int .i64), .dat .str, .dat (.lst (.ext 1))])], []⟩ (.seq [] none (.leaf) (.seq [] none (.leaf) (.seq [] none (.leaf) (.seq [] none (.leaf) (.seq [] none (.leaf) (.drawP [2] [8] [⟨[(0, true), (1, true), (2, true), (3, true), (4, true), (5, false), (6, false), (7, false), (8, false)], none⟩]))))))) (.leaf))))
/- (*jobshell/jobshellref05.reader).unary -/
def ref05_reader_unary_m (F : Nat) (r_ref05_reader_set : (List UInt8) → Int → Int → Int → Option (TExpr × (List UInt8) × Int × Int × Int)) (r_ref05_reader_cond : (List UInt8) → Int → Int → Int → Option (TExpr × (List UInt8) × Int × Int × Int)) (r_ref05_reader_level : Int → (List UInt8) → Int → Int → Int → Option (TExpr × (List UInt8) × Int × Int × Int)) (r_ref05_reader_unary : (List UInt8) → Int → Int → Int → Option (TExpr × (List UInt8) × Int × Int × Int)) (r_ref05_reader_primary : (List UInt8) → Int → Int → Int → Option (TExpr × (List UInt8) × Int × Int × Int)) (a0 : List UInt8) (a1 : Int) (a2 : Int) (a3 : Int) : Option (TExpr × (List UInt8) × Int × Int × Int) :=
 (ref05_reader_operator F a0 a1 a2 a3).bind fun x1 =>
 loopF (σ := Int) (R := TExpr × (List UInt8) × Int × Int × Int) (fun rc3 x2 =>
 (cond (decide (x2 ≤ 6))
 (some (x1.2.2.2.1 == 0))
 (some false) : Option Bool).bind fun x4 =>
 cond x4
 ((ref05_sign F x2).bind fun x5 =>
 cond (x1.1 == x5)
 ((r_ref05_reader_unary x1.2.1 (w64 (x1.2.2.1 + (x1.1.length : Int))) x1.2.2.2.1 x1.2.2.2.2).bind fun x6 =>
 some ((TExpr.mk ((TExpr.mk x2 0 [] ([x6.1] : List TExpr)).fOp) ((TExpr.mk x2 0 [] ([x6.1] : List TExpr)).fN) ((TExpr.mk x2 0 [] ([x6.1] : List TExpr)).fName) ((TExpr.mk x2 0 [] ([x6.1] : List TExpr)).fKids)), x6.2.1, x6.2.2.1, x6.2.2.2.1, x6.2.2.2.2))
 (rc3 (w64 (x2 + 1))))
 ((r_ref05_reader_primary x1.2.1 x1.2.2.1 x1.2.2.2.1 x1.2.2.2.2).bind fun x7 =>
 some ((TExpr.mk x7.1.fOp x7.1.fN x7.1.fName x7.1.fKids), x7.2.1, x7.2.2.1, x7.2.2.2.1, x7.2.2.2.2))) F 3
def ref05_reader_unary_s : Shp := ⟨147, [.one (.ptr 0 0)], [.cells 103 [.dat .str, .dat (.int .i64), .dat (.int .i64), .dat (.int .i64)]], [], ⟨.one (.dat (.ext 1)), [some (.cells 103 [.dat .str, .dat (.int .i64), .dat (.int .i64), .dat (.int .i64)])], []⟩, none⟩
def ref05_reader_unary_p : Plan := .seq [] none (.leaf) (.seq [] none (.leaf) (.seq [] none (.seq [] none (.leaf) (.loop [] ⟨[(4, .one (.dat (.int .i64)))], [none, none], []⟩ (.seq [] none (.seq [] none (.region [(9, ⟨[(15, .one (.dat .bool))], [none, none], []⟩, false)]) (.leaf)) (.leaf)))) (.leaf)))
/- (*jobshell/jobshellref05.reader).primary -/
def ref05_reader_primary_m (F : Nat) (r_ref05_reader_set : (List UInt8) → Int → Int → Int → Option (TExpr × (List UInt8) × Int × Int × Int)) (r_ref05_reader_cond : (List UInt8) → Int → Int → Int → Option (TExpr × (List UInt8) × Int × Int × Int)) (r_ref05_reader_level : Int → (List UInt8) → Int → Int → Int → Option (TExpr × (List UInt8) × Int × Int × Int)) (r_ref05_reader_unary : (List UInt8) → Int → Int → Int → Option (TExpr × (List UInt8) × Int × Int × Int)) (r_ref05_reader_primary : (List UInt8) → Int → Int → Int → Option (TExpr × (List UInt8) × Int × Int × Int)) (a0 : List UInt8) (a1 : Int) (a2 : Int) (a3 : Int) : Option (TExpr × (List UInt8) × Int × Int × Int) :=
 (ref05_reader_is F ([40] : List UInt8) a0 a1 a2 a3).bind fun x1 =>
 cond x1.1
 ((r_ref05_reader_set x1.2.1 x1.2.2.1 x1.2.2.2.1 x1.2.2.2.2).bind fun x2 =>
 (ref05_reader_is F ([41] : List UInt8) x2.2.1 x2.2.2.1 x2.2.2.2.1 x2.2.2.2.2).bind fun x3 =>
 cond (!x3.1)
 ((ref05_reader_fail F 6 x3.2.2.1 x3.2.1 x3.2.2.1 x3.2.2.2.1 x3.2.2.2.2).bind fun x4 =>
 some ((TExpr.mk ((TExpr.mk x2.1.fOp x2.1.fN x2.1.fName x2.1.fKids).fOp) ((TExpr.mk x2.1.fOp x2.1.fN x2.1.fName x2.1.fKids).fN) ((TExpr.mk x2.1.fOp x2.1.fN x2.1.fName x2.1.fKids).fName) ((TExpr.mk x2.1.fOp x2.1.fN x2.1.fName x2.1.fKids).fKids)), x4.1, x4.2.1, x4.2.2.1, x4.2.2.2))
 (some ((TExpr.mk ((TExpr.mk x2.1.fOp x2.1.fN x2.1.fName x2.1.fKids).fOp) ((TExpr.mk x2.1.fOp x2.1.fN x2.1.fName x2.1.fKids).fN) ((TExpr.mk x2.1.fOp x2.1.fN x2.1.fName x2.1.fKids).fName) ((TExpr.mk x2.1.fOp x2.1.fN x2.1.fName x2.1.fKids).fKids)), x3.2.1, x3.2.2.1, x3.2.2.2.1, x3.2.2.2.2)))
 ((ref05_reader_blanks F x1.2.1 x1.2.2.1 x1.2.2.2.1 x1.2.2.2.2).bind fun x5 =>
 (ref05_reader_word F x5.1 x5.2.1 x5.2.2.1 x5.2.2.2).bind fun x6 =>
 cond (x5.2.2.1 != 0)
 (some ((TExpr.mk ((TExpr.mk 0 0 [] []).fOp) ((TExpr.mk 0 0 [] []).fN) ((TExpr.mk 0 0 [] []).fName) ((TExpr.mk 0 0 [] []).fKids)), x5.1, x5.2.1, x5.2.2.1, x5.2.2.2))
 (cond (x6 == [])
 ((ref05_reader_fail F 6 x5.2.1 x5.1 x5.2.1 x5.2.2.1 x5.2.2.2).bind fun x7 =>
 some ((TExpr.mk ((TExpr.mk 0 0 [] []).fOp) ((TExpr.mk 0 0 [] []).fN) ((TExpr.mk 0 0 [] []).fName) ((TExpr.mk 0 0 [] []).fKids)), x7.1, x7.2.1, x7.2.2.1, x7.2.2.2))
 (rq (decide (0 < (x6.length : Int))) ((ref05_Letter F ((x6.getD 0 0).toNat : Int)).bind fun x8 =>
 cond x8
 (((ref01_Name F x6).bind fun x10 =>
 cond (!x10)
 ((ref05_reader_fail F 10 x5.2.1 x5.1 x5.2.1 x5.2.2.1 x5.2.2.2).bind fun x11 =>
 some (x11.1, x11.2.1, x11.2.2.1, x11.2.2.2))
 (some (x5.1, x5.2.1, x5.2.2.1, x5.2.2.2)) : Option ((List UInt8) × Int × Int × Int)).bind fun x9 =>
 some ((TExpr.mk ((TExpr.mk 2 0 x6 []).fOp) ((TExpr.mk 2 0 x6 []).fN) ((TExpr.mk 2 0 x6 []).fName) ((TExpr.mk 2 0 x6 []).fKids)), x9.1, w64 (x9.2.1 + (x6.length : Int)), x9.2.2.1, x9.2.2.2))
 ((ref05_Constant F x6).bind fun x12 =>
 ((cond (x12.2 == 0)
 (some (decide (9223372036854775807 < x12.1)))
 (some false) : Option Bool).bind fun x14 =>
 cond x14
 (some 14)
 (some x12.2) : Option Int).bind fun x13 =>
 cond (x13 != 0)
 ((ref05_reader_fail F x13 x5.2.1 x5.1 x5.2.1 x5.2.2.1 x5.2.2.2).bind fun x15 =>
 some ((TExpr.mk ((TExpr.mk 0 0 [] []).fOp) ((TExpr.mk 0 0 [] []).fN) ((TExpr.mk 0 0 [] []).fName) ((TExpr.mk 0 0 [] []).fKids)), x15.1, x15.2.1, x15.2.2.1, x15.2.2.2))
 (some ((TExpr.mk ((TExpr.mk 1 (w64 x12.1) [] []).fOp) ((TExpr.mk 1 (w64 x12.1) [] []).fN) ((TExpr.mk 1 (w64 x12.1) [] []).fName) ((TExpr.mk 1 (w64 x12.1) [] []).fKids)), x5.1, w64 (x5.2.1 + (x6.length : Int)), x5.2.2.1, x5.2.2.2)))))))
def ref05_reader_primary_s : Shp := ⟨156, [.one (.ptr 0 0)], [.cells 103 [.dat .str, .dat (.int .i64), .dat (.int .i64), .dat (.int .i64)]], [], ⟨.one (.dat (.ext 1)), [some (.cells 103 [.dat .str, .dat (.int .i64), .dat (.int .i64), .dat (.int .i64)])], []⟩, none⟩
def ref05_reader_primary_p : Plan := .seq [] none (.leaf) (.seq [] none (.leaf) (.seq [] none (.leaf) (.seq [] none (.leaf) (.seq [] none (.leaf) (.seq [] none (.leaf) (.seq [] none (.seq [] none (.leaf) (.cond (.seq [] (some (⟨[], [some (.cells 103 [.dat .str, .dat (.int .i64), .dat (.int .i64), .dat (.int .i64)]), none], []⟩, false)) (.leaf) (.leaf)) (.leaf))) (.seq [] none (.leaf) (.seq [] (some (⟨[(6, .one (.dat (.int .i64)))], [none, none], []⟩, false)) (.seq [] none (.region [(6, ⟨[(74, .one (.dat .bool))], [none, none], []⟩, false)]) (.leaf)) (.leaf)))))))))
def ref05_reader_set_G (F : Nat) : Nat → ((List UInt8) → Int → Int → Int → Option (TExpr × (List UInt8) × Int × Int × Int)) × ((List UInt8) → Int → Int → Int → Option (TExpr × (List UInt8) × Int × Int × Int)) × (Int → (List UInt8) → Int → Int → Int → Option (TExpr × (List UInt8) × Int × Int × Int)) × ((List UInt8) → Int → Int → Int → Option (TExpr × (List UInt8) × Int × Int × Int)) × ((List UInt8) → Int → Int → Int → Option (TExpr × (List UInt8) × Int × Int × Int))
  | 0 => (fun _ _ _ _ => none, fun _ _ _ _ => none, fun _ _ _ _ _ => none, fun _ _ _ _ => none, fun _ _ _ _ => none)
  | n + 1 => (ref05_reader_set_m F (ref05_reader_set_G F n).1 (ref05_reader_set_G F n).2.1 (ref05_reader_set_G F n).2.2.1 (ref05_reader_set_G F n).2.2.2.1 (ref05_reader_set_G F n).2.2.2.2, ref05_reader_cond_m F (ref05_reader_set_G F n).1 (ref05_reader_set_G F n).2.1 (ref05_reader_set_G F n).2.2.1 (ref05_reader_set_G F n).2.2.2.1 (ref05_reader_set_G F n).2.2.2.2, ref05_reader_level_m F (ref05_reader_set_G F n).1 (ref05_reader_set_G F n).2.1 (ref05_reader_set_G F n).2.2.1 (ref05_reader_set_G F n).2.2.2.1 (ref05_reader_set_G F n).2.2.2.2, ref05_reader_unary_m F (ref05_reader_set_G F n).1 (ref05_reader_set_G F n).2.1 (ref05_reader_set_G F n).2.2.1 (ref05_reader_set_G F n).2.2.2.1 (ref05_reader_set_G F n).2.2.2.2, ref05_reader_primary_m F (ref05_reader_set_G F n).1 (ref05_reader_set_G F n).2.1 (ref05_reader_set_G F n).2.2.1 (ref05_reader_set_G F n).2.2.2.1 (ref05_reader_set_G F n).2.2.2.2)
def ref05_reader_set_n (F n : Nat) : (List UInt8) → Int → Int → Int → Option (TExpr × (List UInt8) × Int × Int × Int) := (ref05_reader_set_G F n).1
def ref05_reader_cond_n (F n : Nat) : (List UInt8) → Int → Int → Int → Option (TExpr × (List UInt8) × Int × Int × Int) := (ref05_reader_set_G F n).2.1
def ref05_reader_level_n (F n : Nat) : Int → (List UInt8) → Int → Int → Int → Option (TExpr × (List UInt8) × Int × Int × Int) := (ref05_reader_set_G F n).2.2.1
def ref05_reader_unary_n (F n : Nat) : (List UInt8) → Int → Int → Int → Option (TExpr × (List UInt8) × Int × Int × Int) := (ref05_reader_set_G F n).2.2.2.1
def ref05_reader_primary_n (F n : Nat) : (List UInt8) → Int → Int → Int → Option (TExpr × (List UInt8) × Int × Int × Int) := (ref05_reader_set_G F n).2.2.2.2
def ref05_reader_set (F : Nat) (a0 : List UInt8) (a1 : Int) (a2 : Int) (a3 : Int) : Option (TExpr × (List UInt8) × Int × Int × Int) := ref05_reader_set_n F F a0 a1 a2 a3
def ref05_reader_cond (F : Nat) (a0 : List UInt8) (a1 : Int) (a2 : Int) (a3 : Int) : Option (TExpr × (List UInt8) × Int × Int × Int) := ref05_reader_cond_n F F a0 a1 a2 a3
def ref05_reader_level (F : Nat) (a0 : Int) (a1 : List UInt8) (a2 : Int) (a3 : Int) (a4 : Int) : Option (TExpr × (List UInt8) × Int × Int × Int) := ref05_reader_level_n F F a0 a1 a2 a3 a4
def ref05_reader_unary (F : Nat) (a0 : List UInt8) (a1 : Int) (a2 : Int) (a3 : Int) : Option (TExpr × (List UInt8) × Int × Int × Int) := ref05_reader_unary_n F F a0 a1 a2 a3
def ref05_reader_primary (F : Nat) (a0 : List UInt8) (a1 : Int) (a2 : Int) (a3 : Int) : Option (TExpr × (List UInt8) × Int × Int × Int) := ref05_reader_primary_n F F a0 a1 a2 a3
def ref05_reader_set_cn (F n : Nat) : Ctr E := ⟨ref05_reader_set_s, fun (x : (List UInt8) × Int × Int × Int) => ref05_reader_set_n F n x.1 x.2.1 x.2.2.1 x.2.2.2⟩
def ref05_reader_set_c (F : Nat) : Ctr E := ⟨ref05_reader_set_s, fun (x : (List UInt8) × Int × Int × Int) => ref05_reader_set F x.1 x.2.1 x.2.2.1 x.2.2.2⟩
def ref05_reader_cond_cn (F n : Nat) : Ctr E := ⟨ref05_reader_cond_s, fun (x : (List UInt8) × Int × Int × Int) => ref05_reader_cond_n F n x.1 x.2.1 x.2.2.1 x.2.2.2⟩
def ref05_reader_cond_c (F : Nat) : Ctr E := ⟨ref05_reader_cond_s, fun (x : (List UInt8) × Int × Int × Int) => ref05_reader_cond F x.1 x.2.1 x.2.2.1 x.2.2.2⟩
def ref05_reader_level_cn (F n : Nat) : Ctr E := ⟨ref05_reader_level_s, fun (x : Int × (List UInt8) × Int × Int × Int) => ref05_reader_level_n F n x.1 x.2.1 x.2.2.1 x.2.2.2.1 x.2.2.2.2⟩
def ref05_reader_level_c (F : Nat) : Ctr E := ⟨ref05_reader_level_s, fun (x : Int × (List UInt8) × Int × Int × Int) => ref05_reader_level F x.1 x.2.1 x.2.2.1 x.2.2.2.1 x.2.2.2.2⟩
def ref05_reader_unary_cn (F n : Nat) : Ctr E := ⟨ref05_reader_unary_s, fun (x : (List UInt8) × Int × Int × Int) => ref05_reader_unary_n F n x.1 x.2.1 x.2.2.1 x.2.2.2⟩
def ref05_reader_unary_c (F : Nat) : Ctr E := ⟨ref05_reader_unary_s, fun (x : (List UInt8) × Int × Int × Int) => ref05_reader_unary F x.1 x.2.1 x.2.2.1 x.2.2.2⟩
def ref05_reader_primary_cn (F n : Nat) : Ctr E := ⟨ref05_reader_primary_s, fun (x : (List UInt8) × Int × Int × Int) => ref05_reader_primary_n F n x.1 x.2.1 x.2.2.1 x.2.2.2⟩
def ref05_reader_primary_c (F : Nat) : Ctr E := ⟨ref05_reader_primary_s, fun (x : (List UInt8) × Int × Int × Int) => ref05_reader_primary F x.1 x.2.1 x.2.2.1 x.2.2.2⟩
theorem ref05_reader_set_st (F n : Nat) (h : (ref05_reader_set_cn F n).Ok Tryz.prog ∧ (ref05_reader_cond_cn F n).Ok Tryz.prog ∧ (ref05_reader_level_cn F n).Ok Tryz.prog ∧ (ref05_reader_unary_cn F n).Ok Tryz.prog ∧ (ref05_reader_primary_cn F n).Ok Tryz.prog) : (ref05_reader_set_cn F (n + 1)).Ok Tryz.prog := Ctr.ok_of (X := ⟨Tryz.prog, tyT, [ref05_reader_blanks_c F, ref05_reader_word_c F, ref05_Letter_c F, ref05_reader_operator_c F, ref05_assigning_c F, ref01_Name_c F, ref05_reader_fail_c F, ref05_reader_set_cn F n, ref05_reader_cond_cn F n]⟩) (F := F) ⟨E_ok, okC (ref05_reader_blanks_ok F) (okC (ref05_reader_word_ok F) (okC (ref05_Letter_ok F) (okC (ref05_reader_operator_ok F) (okC (ref05_assigning_ok F) (okC (ref01_Name_ok F) (okC (ref05_reader_fail_ok F) (okC h.1 (okC h.2.1 (okN))))))))), mixed⟩ (pl := ref05_reader_set_p) Tryz.func70 (by kernel_rfl) (fun x => by kernel_rfl)
theorem ref05_reader_cond_st (F n : Nat) (h : (ref05_reader_set_cn F n).Ok Tryz.prog ∧ (ref05_reader_cond_cn F n).Ok Tryz.prog ∧ (ref05_reader_level_cn F n).Ok Tryz.prog ∧ (ref05_reader_unary_cn F n).Ok Tryz.prog ∧ (ref05_reader_primary_cn F n).Ok Tryz.prog) : (ref05_reader_cond_cn F (n + 1)).Ok Tryz.prog := Ctr.ok_of (X := ⟨Tryz.prog, tyT, [ref05_reader_level_cn F n, ref05_reader_is_c F, ref05_reader_set_cn F n, ref05_reader_fail_c F, ref05_reader_cond_cn F n]⟩) (F := F) ⟨E_ok, okC h.2.2.1 (okC (ref05_reader_is_ok F) (okC h.1 (okC (ref05_reader_fail_ok F) (okC h.2.1 (okN))))), mixed⟩ (pl := ref05_reader_cond_p) Tryz.func106 (by kernel_rfl) (fun x => by kernel_rfl)
theorem ref05_reader_level_st (F n : Nat) (h : (ref05_reader_set_cn F n).Ok Tryz.prog ∧ (ref05_reader_cond_cn F n).Ok Tryz.prog ∧ (ref05_reader_level_cn F n).Ok Tryz.prog ∧ (ref05_reader_unary_cn F n).Ok Tryz.prog ∧ (ref05_reader_primary_cn F n).Ok Tryz.prog) : (ref05_reader_level_cn F (n + 1)).Ok Tryz.prog := Ctr.ok_of (X := ⟨Tryz.prog, tyT, [ref05_reader_unary_cn F n, ref05_reader_level_cn F n, ref05_reader_operator_c F, ref05_binary_c F]⟩) (F := F) ⟨E_ok, okC h.2.2.2.1 (okC h.2.2.1 (okC (ref05_reader_operator_ok F) (okC (ref05_binary_ok F) (okN)))), mixed⟩ (pl := ref05_reader_level_p) Tryz.func132 (by kernel_rfl) (fun x => by kernel_rfl)
theorem ref05_reader_unary_st (F n : Nat) (h : (ref05_reader_set_cn F n).Ok Tryz.prog ∧ (ref05_reader_cond_cn F n).Ok Tryz.prog ∧ (ref05_reader_level_cn F n).Ok Tryz.prog ∧ (ref05_reader_unary_cn F n).Ok Tryz.prog ∧ (ref05_reader_primary_cn F n).Ok Tryz.prog) : (ref05_reader_unary_cn F (n + 1)).Ok Tryz.prog := Ctr.ok_of (X := ⟨Tryz.prog, tyT, [ref05_reader_operator_c F, ref05_sign_c F, ref05_reader_unary_cn F n, ref05_reader_primary_cn F n]⟩) (F := F) ⟨E_ok, okC (ref05_reader_operator_ok F) (okC (ref05_sign_ok F) (okC h.2.2.2.1 (okC h.2.2.2.2 (okN)))), mixed⟩ (pl := ref05_reader_unary_p) Tryz.func147 (by kernel_rfl) (fun x => by kernel_rfl)
theorem ref05_reader_primary_st (F n : Nat) (h : (ref05_reader_set_cn F n).Ok Tryz.prog ∧ (ref05_reader_cond_cn F n).Ok Tryz.prog ∧ (ref05_reader_level_cn F n).Ok Tryz.prog ∧ (ref05_reader_unary_cn F n).Ok Tryz.prog ∧ (ref05_reader_primary_cn F n).Ok Tryz.prog) : (ref05_reader_primary_cn F (n + 1)).Ok Tryz.prog := Ctr.ok_of (X := ⟨Tryz.prog, tyT, [ref05_reader_is_c F, ref05_reader_set_cn F n, ref05_reader_fail_c F, ref05_reader_blanks_c F, ref05_reader_word_c F, ref05_Letter_c F, ref01_Name_c F, ref05_Constant_c F]⟩) (F := F) ⟨E_ok, okC (ref05_reader_is_ok F) (okC h.1 (okC (ref05_reader_fail_ok F) (okC (ref05_reader_blanks_ok F) (okC (ref05_reader_word_ok F) (okC (ref05_Letter_ok F) (okC (ref01_Name_ok F) (okC (ref05_Constant_ok F) (okN)))))))), mixed⟩ (pl := ref05_reader_primary_p) Tryz.func156 (by kernel_rfl) (fun x => by kernel_rfl)
theorem ref05_reader_set_okn (F : Nat) : ∀ n, (ref05_reader_set_cn F n).Ok Tryz.prog ∧ (ref05_reader_cond_cn F n).Ok Tryz.prog ∧ (ref05_reader_level_cn F n).Ok Tryz.prog ∧ (ref05_reader_unary_cn F n).Ok Tryz.prog ∧ (ref05_reader_primary_cn F n).Ok Tryz.prog
  | 0 => ⟨(fun x y h => nomatch (show none = some y from h)), (fun x y h => nomatch (show none = some y from h)), (fun x y h => nomatch (show none = some y from h)), (fun x y h => nomatch (show none = some y from h)), (fun x y h => nomatch (show none = some y from h))⟩
  | n + 1 => by
    have h := ref05_reader_set_okn F n
    exact ⟨ref05_reader_set_st F n h,
      ref05_reader_cond_st F n h,
      ref05_reader_level_st F n h,
      ref05_reader_unary_st F n h,
      ref05_reader_primary_st F n h⟩
theorem ref05_reader_set_ok (F : Nat) : (ref05_reader_set_c F).Ok Tryz.prog := (ref05_reader_set_okn F F).1
theorem ref05_reader_cond_ok (F : Nat) : (ref05_reader_cond_c F).Ok Tryz.prog := (ref05_reader_set_okn F F).2.1
theorem ref05_reader_level_ok (F : Nat) : (ref05_reader_level_c F).Ok Tryz.prog := (ref05_reader_set_okn F F).2.2.1
theorem ref05_reader_unary_ok (F : Nat) : (ref05_reader_unary_c F).Ok Tryz.prog := (ref05_reader_set_okn F F).2.2.2.1
theorem ref05_reader_primary_ok (F : Nat) : (ref05_reader_primary_c F).Ok Tryz.prog := (ref05_reader_set_okn F F).2.2.2.2
/- jobshell/jobshellref05.Levels -/
def ref05_Levels_m (F : Nat) (r_ref05_Levels : TExpr → Option Int) (a0 : TExpr) : Option Int :=
 loopF (σ := Int × Int) (R := Int) (fun rc2 x1 =>
 cond (decide (x1.2 < (a0.fKids.length : Int)))
 (rq ((decide (0 ≤ x1.2)) && (decide (x1.2 < (a0.fKids.length : Int)))) ((r_ref05_Levels (a0.fKids.getD (Int.toNat x1.2) dTExpr)).bind fun x3 =>
 rc2 (cond (decide (x1.1 < x3)) x3 x1.1, w64 (x1.2 + 1))))
 (some (w64 (x1.1 + 1)))) F (0, 0)
def ref05_Levels_s : Shp := ⟨72, [.one (.dat (.ext 1))], [], [], ⟨.one (.dat (.int .i64)), [], []⟩, none⟩
def ref05_Levels_p : Plan := .seq [] none (.leaf) (.seq [] none (.leaf) (.seq [] none (.seq [] none (.leaf) (.loop [] ⟨[(3, .one (.dat (.int .i64))), (4, .one (.dat (.int .i64)))], [none], []⟩ (.leaf))) (.leaf)))
def ref05_Levels_n (F : Nat) : Nat → TExpr → Option Int
  | 0 => fun _ => none
  | n + 1 => ref05_Levels_m F (ref05_Levels_n F n)
def ref05_Levels (F : Nat) (a0 : TExpr) : Option Int := ref05_Levels_n F F a0
def ref05_Levels_cn (F n : Nat) : Ctr E := ⟨ref05_Levels_s, fun (x : TExpr) => ref05_Levels_n F n x⟩
def ref05_Levels_c (F : Nat) : Ctr E := ⟨ref05_Levels_s, fun (x : TExpr) => ref05_Levels F x⟩
theorem ref05_Levels_st (F n : Nat) (h : (ref05_Levels_cn F n).Ok Tryz.prog) : (ref05_Levels_cn F (n + 1)).Ok Tryz.prog := Ctr.ok_of (X := ⟨Tryz.prog, tyT, [ref05_Levels_cn F n]⟩) (F := F) ⟨E_ok, okC h (okN), mixed⟩ (pl := ref05_Levels_p) Tryz.func72 (by kernel_rfl) (fun x => by kernel_rfl)
theorem ref05_Levels_okn (F : Nat) : ∀ n, (ref05_Levels_cn F n).Ok Tryz.prog
  | 0 => (fun x y h => nomatch (show none = some y from h))
  | n + 1 => by
    have h := ref05_Levels_okn F n
    exact ref05_Levels_st F n h
theorem ref05_Levels_ok (F : Nat) : (ref05_Levels_c F).Ok Tryz.prog := (ref05_Levels_okn F F)
/- jobshell/jobshellref05.Parse -/
def ref05_Parse (F : Nat)  (a0 : List UInt8) : Option (TExpr × Int × Int) :=
 cond (decide (4096 < (a0.length : Int)))
 (some ((TExpr.mk ((TExpr.mk 0 0 [] []).fOp) ((TExpr.mk 0 0 [] []).fN) ((TExpr.mk 0 0 [] []).fName) ((TExpr.mk 0 0 [] []).fKids)), 0, 3))
 ((ref05_reader_blanks F ((Treader.mk a0 0 0 0).fs) ((Treader.mk a0 0 0 0).fat) ((Treader.mk a0 0 0 0).fe) ((Treader.mk a0 0 0 0).fpos)).bind fun x1 =>
 cond (x1.2.1 == (a0.length : Int))
 (some ((TExpr.mk ((TExpr.mk 1 0 [] []).fOp) ((TExpr.mk 1 0 [] []).fN) ((TExpr.mk 1 0 [] []).fName) ((TExpr.mk 1 0 [] []).fKids)), 0, 0))
 ((ref05_reader_set F x1.1 x1.2.1 x1.2.2.1 x1.2.2.2).bind fun x2 =>
 (ref05_reader_blanks F x2.2.1 x2.2.2.1 x2.2.2.2.1 x2.2.2.2.2).bind fun x3 =>
 (cond (decide (x3.2.1 < (a0.length : Int)))
 ((ref05_reader_fail F 6 x3.2.1 x3.1 x3.2.1 x3.2.2.1 x3.2.2.2).bind fun x5 =>
 some (x5.1, x5.2.1, x5.2.2.1, x5.2.2.2))
 (some (x3.1, x3.2.1, x3.2.2.1, x3.2.2.2)) : Option ((List UInt8) × Int × Int × Int)).bind fun x4 =>
 cond (x4.2.2.1 != 0)
 (some ((TExpr.mk ((TExpr.mk 0 0 [] []).fOp) ((TExpr.mk 0 0 [] []).fN) ((TExpr.mk 0 0 [] []).fName) ((TExpr.mk 0 0 [] []).fKids)), x4.2.2.2, x4.2.2.1))
 ((ref05_Levels F (TExpr.mk x2.1.fOp x2.1.fN x2.1.fName x2.1.fKids)).bind fun x6 =>
 cond (decide (32 < x6))
 (some ((TExpr.mk ((TExpr.mk 0 0 [] []).fOp) ((TExpr.mk 0 0 [] []).fN) ((TExpr.mk 0 0 [] []).fName) ((TExpr.mk 0 0 [] []).fKids)), 0, 5))
 (some ((TExpr.mk ((TExpr.mk x2.1.fOp x2.1.fN x2.1.fName x2.1.fKids).fOp) ((TExpr.mk x2.1.fOp x2.1.fN x2.1.fName x2.1.fKids).fN) ((TExpr.mk x2.1.fOp x2.1.fN x2.1.fName x2.1.fKids).fName) ((TExpr.mk x2.1.fOp x2.1.fN x2.1.fName x2.1.fKids).fKids)), 0, 0)))))
def ref05_Parse_s : Shp := ⟨40, [.one (.dat .str)], [], [], ⟨.tup [.dat (.ext 1), .dat (.int .i64), .dat (.int .i64)], [], []⟩, none⟩
def ref05_Parse_p : Plan := .seq [] none (.leaf) (.seq [] none (.leaf) (.seq [] none (.leaf) (.seq [] none (.leaf) (.seq [] none (.leaf) (.seq [] none (.leaf) (.seq [] none (.leaf) (.seq [] (some (⟨[], [none, some (.cells 103 [.dat .str, .dat (.int .i64), .dat (.int .i64), .dat (.int .i64)]), none], []⟩, false)) (.leaf) (.seq [] none (.seq [] none (.leaf) (.cond (.seq [] none (.drawP [1] [] [⟨[(0, true), (1, true), (2, true), (3, true), (4, true), (5, true), (6, true), (7, true), (8, true), (9, false), (10, false), (11, false)], none⟩]) (.leaf)) (.leaf))) (.leaf)))))))))
def ref05_Parse_c (F : Nat) : Ctr E := ⟨ref05_Parse_s, fun (x : List UInt8) => ref05_Parse F x⟩
theorem ref05_Parse_ok (F : Nat) : (ref05_Parse_c F).Ok Tryz.prog := Ctr.ok_of (X := ⟨Tryz.prog, tyT, [ref05_reader_blanks_c F, ref05_reader_set_c F, ref05_reader_fail_c F, ref05_Levels_c F]⟩) (F := F) ⟨E_ok, okC (ref05_reader_blanks_ok F) (okC (ref05_reader_set_ok F) (okC (ref05_reader_fail_ok F) (okC (ref05_Levels_ok F) (okN)))), mixed⟩ (pl := ref05_Parse_p) Tryz.func40 (by kernel_rfl) (fun x => by kernel_rfl)
/- jobshell/jobshellref06.Text -/
def ref06_Text (F : Nat)  (a0 : List UInt8) (a1 : List TBinding) : Option (Int × (List TBinding) × Int) :=
 (ref05_Parse F a0).bind fun x1 =>
 cond (x1.2.2 != 0)
 (some (0, [], x1.2.2))
 ((ref06_Eval F (TExpr.mk x1.1.fOp x1.1.fN x1.1.fName x1.1.fKids) a1).bind fun x2 =>
 some (x2.1, x2.2.1, x2.2.2))
def ref06_Text_s : Shp := ⟨20, [.one (.dat .str), .one (.dat (.lst (.ext 0)))], [], [], ⟨.tup [.dat (.int .i64), .dat (.lst (.ext 0)), .dat (.int .i64)], [], []⟩, none⟩
def ref06_Text_p : Plan := .leaf
def ref06_Text_c (F : Nat) : Ctr E := ⟨ref06_Text_s, fun (x : (List UInt8) × (List TBinding)) => ref06_Text F x.1 x.2⟩
theorem ref06_Text_ok (F : Nat) : (ref06_Text_c F).Ok Tryz.prog := Ctr.ok_of (X := ⟨Tryz.prog, tyT, [ref05_Parse_c F, ref06_Eval_c F]⟩) (F := F) ⟨E_ok, okC (ref05_Parse_ok F) (okC (ref06_Eval_ok F) (okN)), mixed⟩ (pl := ref06_Text_p) Tryz.func20 (by kernel_rfl) (fun x => by kernel_rfl)
/- jobshell/jobshelllaw06.CalcTexts -/
def law06_CalcTexts (F : Nat)  (a0 : List UInt8) (a1 : List TBinding) : Option Bool :=
 (cond (decide (120 < (a0.length : Int)))
 (some true)
 ((ref06_Few F a1 12).bind fun x2 =>
 some (!x2)) : Option Bool).bind fun x1 =>
 cond x1
 ((law06_awake 60).bind fun x3 =>
 some x3)
 ((calc_Text F a0 a1).bind fun x4 =>
 (ref06_Text F a0 a1).bind fun x5 =>
 (cond (x4.1 == x5.1)
 ((ref06_SameBindings F x4.2.1 x5.2.1).bind fun x7 =>
 some x7)
 (some false) : Option Bool).bind fun x6 =>
 (cond x6
 (some (x4.2.2 == x5.2.2))
 (some false) : Option Bool).bind fun x8 =>
 (cond x8
 ((law06_awake 60).bind fun x10 =>
 some x10)
 (some false) : Option Bool).bind fun x9 =>
 some x9)
def law06_CalcTexts_s : Shp := ⟨5, [.one (.dat .str), .one (.dat (.lst (.ext 0)))], [], [], ⟨.one (.dat .bool), [], []⟩, none⟩
def law06_CalcTexts_p : Plan := .seq [] none (.leaf) (.seq [] none (.seq [] none (.region [(8, ⟨[(18, .one (.dat .bool))], [], []⟩, false)]) (.leaf)) (.seq [] none (.leaf) (.seq [] none (.leaf) (.seq [] none (.region [(8, ⟨[(41, .one (.dat .bool))], [], []⟩, false), (5, ⟨[(46, .one (.dat .bool))], [], []⟩, false), (3, ⟨[(49, .one (.dat .bool))], [], []⟩, false)]) (.leaf)))))
def law06_CalcTexts_c (F : Nat) : Ctr E := ⟨law06_CalcTexts_s, fun (x : (List UInt8) × (List TBinding)) => law06_CalcTexts F x.1 x.2⟩
theorem law06_CalcTexts_ok (F : Nat) : (law06_CalcTexts_c F).Ok Tryz.prog := Ctr.ok_of (X := ⟨Tryz.prog, tyT, [ref06_Few_c F, law06_awake_c 60, calc_Text_c F, ref06_Text_c F, ref06_SameBindings_c F]⟩) (F := F) ⟨E_ok, okC (ref06_Few_ok F) (okC (law06_awake_ok 60) (okC (calc_Text_ok F) (okC (ref06_Text_ok F) (okC (ref06_SameBindings_ok F) (okN))))), mixed⟩ (pl := law06_CalcTexts_p) Tryz.func5 (by kernel_rfl) (fun x => by kernel_rfl)
/- jobshell/jobshelllaw06.CalcKeeps -/
def law06_CalcKeeps (F : Nat)  (a0 : TExpr) (a1 : List TBinding) : Option Bool :=
 ((ref05_Small F (TExpr.mk a0.fOp a0.fN a0.fName a0.fKids) 60).bind fun x2 =>
 cond (!x2)
 (some true)
 ((ref06_Few F a1 12).bind fun x3 =>
 some (!x3)) : Option Bool).bind fun x1 =>
 cond x1
 ((law06_awake 60).bind fun x4 =>
 some x4)
 ((calc_Eval F (TExpr.mk a0.fOp a0.fN a0.fName a0.fKids) a1).bind fun x5 =>
 (calc_Fold F (TExpr.mk a0.fOp a0.fN a0.fName a0.fKids)).bind fun x6 =>
 (calc_Eval F x6 a1).bind fun x7 =>
 (cond (x5.1 == x7.1)
 ((ref06_SameBindings F x5.2.1 x7.2.1).bind fun x9 =>
 some x9)
 (some false) : Option Bool).bind fun x8 =>
 (cond x8
 (some (x5.2.2 == x7.2.2))
 (some false) : Option Bool).bind fun x10 =>
 (cond x10
 ((law06_awake 60).bind fun x12 =>
 some x12)
 (some false) : Option Bool).bind fun x11 =>
 some x11)
def law06_CalcKeeps_s : Shp := ⟨7, [.one (.dat (.ext 1)), .one (.dat (.lst (.ext 0)))], [], [], ⟨.one (.dat .bool), [], []⟩, none⟩
def law06_CalcKeeps_p : Plan := .seq [] none (.leaf) (.seq [] none (.seq [] none (.region [(8, ⟨[(18, .one (.dat .bool))], [none], []⟩, false)]) (.leaf)) (.seq [] none (.leaf) (.seq [] none (.leaf) (.seq [] none (.region [(8, ⟨[(42, .one (.dat .bool))], [none], []⟩, false), (5, ⟨[(47, .one (.dat .bool))], [none], []⟩, false), (3, ⟨[(50, .one (.dat .bool))], [none], []⟩, false)]) (.leaf)))))
def law06_CalcKeeps_c (F : Nat) : Ctr E := ⟨law06_CalcKeeps_s, fun (x : TExpr × (List TBinding)) => law06_CalcKeeps F x.1 x.2⟩
theorem law06_CalcKeeps_ok (F : Nat) : (law06_CalcKeeps_c F).Ok Tryz.prog := Ctr.ok_of (X := ⟨Tryz.prog, tyT, [ref05_Small_c F, ref06_Few_c F, law06_awake_c 60, calc_Eval_c F, calc_Fold_c F, ref06_SameBindings_c F]⟩) (F := F) ⟨E_ok, okC (ref05_Small_ok F) (okC (ref06_Few_ok F) (okC (law06_awake_ok 60) (okC (calc_Eval_ok F) (okC (calc_Fold_ok F) (okC (ref06_SameBindings_ok F) (okN)))))), mixed⟩ (pl := law06_CalcKeeps_p) Tryz.func7 (by kernel_rfl) (fun x => by kernel_rfl)
/- jobshell/jobshelllaw06.CalcAssigns -/
def law06_CalcAssigns (F : Nat)  (a0 : List UInt8) (a1 : TExpr) (a2 : List TBinding) : Option Bool :=
 ((ref05_Small F (TExpr.mk a1.fOp a1.fN a1.fName a1.fKids) 60).bind fun x2 =>
 cond (!x2)
 (some true)
 ((ref06_Few F a2 12).bind fun x3 =>
 some (!x3)) : Option Bool).bind fun x1 =>
 (cond x1
 (some true)
 (some (decide (60 < (a0.length : Int)))) : Option Bool).bind fun x4 =>
 cond x4
 ((law06_awake 60).bind fun x5 =>
 some x5)
 ((calc_Eval F (TExpr.mk ((TExpr.mk 26 0 a0 ([(TExpr.mk a1.fOp a1.fN a1.fName a1.fKids)] : List TExpr)).fOp) ((TExpr.mk 26 0 a0 ([(TExpr.mk a1.fOp a1.fN a1.fName a1.fKids)] : List TExpr)).fN) ((TExpr.mk 26 0 a0 ([(TExpr.mk a1.fOp a1.fN a1.fName a1.fKids)] : List TExpr)).fName) ((TExpr.mk 26 0 a0 ([(TExpr.mk a1.fOp a1.fN a1.fName a1.fKids)] : List TExpr)).fKids)) a2).bind fun x6 =>
 cond (x6.2.2 != 0)
 ((cond (x6.1 == 0)
 (some ((x6.2.1.length : Int) == 0))
 (some false) : Option Bool).bind fun x7 =>
 (cond x7
 ((law06_awake 60).bind fun x9 =>
 some x9)
 (some false) : Option Bool).bind fun x8 =>
 some x8)
 (loopF (σ := Bool × Int) (R := Bool) (fun rc11 x10 =>
 cond (decide (x10.2 < (x6.2.1.length : Int)))
 ((cond x10.1
 (some true)
 (rq ((decide (0 ≤ x10.2)) && (decide (x10.2 < (x6.2.1.length : Int)))) (cond (((x6.2.1.getD (Int.toNat x10.2) dTBinding).fName) == a0)
 (rq ((decide (0 ≤ x10.2)) && (decide (x10.2 < (x6.2.1.length : Int)))) ((ref05_Decimal F x6.1).bind fun x13 =>
 some (((x6.2.1.getD (Int.toNat x10.2) dTBinding).fValue) == x13)))
 (some false))) : Option Bool).bind fun x12 =>
 (cond (decide (0 < x10.2))
 (rq ((decide (0 ≤ w64 (x10.2 - 1))) && (decide (w64 (x10.2 - 1) < (x6.2.1.length : Int)))) (rq ((decide (0 ≤ x10.2)) && (decide (x10.2 < (x6.2.1.length : Int)))) (some (!(Op.bytesLess ((x6.2.1.getD (Int.toNat (w64 (x10.2 - 1))) dTBinding).fName) ((x6.2.1.getD (Int.toNat x10.2) dTBinding).fName))))))
 (some false) : Option Bool).bind fun x14 =>
 cond x14
 (some false)
 (rc11 (x12, w64 (x10.2 + 1))))
 ((calc_Eval F (TExpr.mk 2 0 a0 []) x6.2.1).bind fun x15 =>
 (cond x10.1
 (some (x15.1 == x6.1))
 (some false) : Option Bool).bind fun x16 =>
 (cond x16
 (some (x15.2.2 == 0))
 (some false) : Option Bool).bind fun x17 =>
 (cond x17
 ((ref06_SameBindings F x15.2.1 x6.2.1).bind fun x19 =>
 some x19)
 (some false) : Option Bool).bind fun x18 =>
 (cond x18
 ((law06_awake 60).bind fun x21 =>
 some x21)
 (some false) : Option Bool).bind fun x20 =>
 some x20)) F (false, 0)))
def law06_CalcAssigns_s : Shp := ⟨8, [.one (.dat .str), .one (.dat (.ext 1)), .one (.dat (.lst (.ext 0)))], [], [], ⟨.one (.dat .bool), [], []⟩, none⟩
def law06_CalcAssigns_p : Plan := .seq [] none (.leaf) (.seq [] none (.seq [] none (.region [(8, ⟨[(23, .one (.dat .bool))], [none], []⟩, false), (5, ⟨[(28, .one (.dat .bool))], [none], []⟩, false)]) (.leaf)) (.seq [] none (.leaf) (.seq [] none (.leaf) (.seq [] none (.seq [] none (.leaf) (.cond (.seq [] none (.region [(7, ⟨[(49, .one (.dat .bool))], [none, none], [none]⟩, false), (3, ⟨[(52, .one (.dat .bool))], [none, none], [none]⟩, false)]) (.leaf)) (.leaf))) (.seq [] none (.leaf) (.seq [] none (.seq [] none (.leaf) (.loop [] ⟨[(11, .one (.dat .bool)), (12, .one (.dat (.int .i64)))], [none, none], [none]⟩ (.seq [] none (.leaf) (.seq [] none (.seq [] (some (⟨[(11, .one (.dat .bool))], [none, none], [none]⟩, false)) (.drawP [] [] [⟨[(0, true), (1, true), (2, true), (3, true), (4, true), (5, true), (6, true), (7, true), (8, true), (9, true), (10, true), (11, true), (12, true), (13, true), (14, true), (15, true), (16, false), (17, false), (18, false), (19, false), (20, false)], none⟩]) (.seq [] none (.draw [⟨true, 16, some ⟨[(94, .one (.dat .bool))], [none, none], [none]⟩⟩]) (.leaf))) (.leaf))))) (.seq [] none (.leaf) (.seq [] none (.region [(6, ⟨[(108, .one (.dat .bool))], [none, none], [none]⟩, false), (4, ⟨[(112, .one (.dat .bool))], [none, none], [none]⟩, false), (5, ⟨[(117, .one (.dat .bool))], [none, none], [none]⟩, false), (3, ⟨[(120, .one (.dat .bool))], [none, none], [none]⟩, false)]) (.leaf)))))))))
def law06_CalcAssigns_c (F : Nat) : Ctr E := ⟨law06_CalcAssigns_s, fun (x : (List UInt8) × TExpr × (List TBinding)) => law06_CalcAssigns F x.1 x.2.1 x.2.2⟩
theorem law06_CalcAssigns_ok (F : Nat) : (law06_CalcAssigns_c F).Ok Tryz.prog := Ctr.ok_of (X := ⟨Tryz.prog, tyT, [ref05_Small_c F, ref06_Few_c F, law06_awake_c 60, calc_Eval_c F, ref05_Decimal_c F, ref06_SameBindings_c F]⟩) (F := F) ⟨E_ok, okC (ref05_Small_ok F) (okC (ref06_Few_ok F) (okC (law06_awake_ok 60) (okC (calc_Eval_ok F) (okC (ref05_Decimal_ok F) (okC (ref06_SameBindings_ok F) (okN)))))), mixed⟩ (pl := law06_CalcAssigns_p) Tryz.func8 (by kernel_rfl) (fun x => by kernel_rfl)
/- jobshell/jobshelllaw06.value -/
def law06_value (F : Nat)  (a0 : Int) (a1 : Int) (a2 : Int) : Option (Int × Int) :=
 (ref05_Decimal F a1).bind fun x1 =>
 (ref05_Decimal F a2).bind fun x2 =>
 (calc_Eval F (TExpr.mk a0 0 [] ([(TExpr.mk 2 0 ([97] : List UInt8) []), (TExpr.mk 2 0 ([98] : List UInt8) [])] : List TExpr)) ([(TBinding.mk ([97] : List UInt8) x1), (TBinding.mk ([98] : List UInt8) x2)] : List TBinding)).bind fun x3 =>
 some (x3.1, x3.2.2)
def law06_value_s : Shp := ⟨25, [.one (.dat (.int .i64)), .one (.dat (.int .i64)), .one (.dat (.int .i64))], [], [], ⟨.tup [.dat (.int .i64), .dat (.int .i64)], [], []⟩, none⟩
def law06_value_p : Plan := .leaf
def law06_value_c (F : Nat) : Ctr E := ⟨law06_value_s, fun (x : Int × Int × Int) => law06_value F x.1 x.2.1 x.2.2⟩
theorem law06_value_ok (F : Nat) : (law06_value_c F).Ok Tryz.prog := Ctr.ok_of (X := ⟨Tryz.prog, tyT, [ref05_Decimal_c F, calc_Eval_c F]⟩) (F := F) ⟨E_ok, okC (ref05_Decimal_ok F) (okC (calc_Eval_ok F) (okN)), mixed⟩ (pl := law06_value_p) Tryz.func25 (by kernel_rfl) (fun x => by kernel_rfl)
/- jobshell/jobshelllaw06.CalcDivides -/
def law06_CalcDivides (F : Nat)  (a0 : Int) (a1 : Int) : Option Bool :=
 (law06_value F 8 a0 a1).bind fun x1 =>
 (law06_value F 9 a0 a1).bind fun x2 =>
 cond (a1 == 0)
 ((cond (x1.2 == 13)
 (some (x2.2 == 13))
 (some false) : Option Bool).bind fun x3 =>
 (cond x3
 (some (x1.1 == 0))
 (some false) : Option Bool).bind fun x4 =>
 (cond x4
 (some (x2.1 == 0))
 (some false) : Option Bool).bind fun x5 =>
 (cond x5
 ((law06_awake 60).bind fun x7 =>
 some x7)
 (some false) : Option Bool).bind fun x6 =>
 some x6)
 ((law06_value F 7 x1.1 a1).bind fun x8 =>
 (law06_value F 10 x8.1 x2.1).bind fun x9 =>
 (law06_value F 11 x9.1 x2.1).bind fun x10 =>
 (law06_value F 7 a1 x1.1).bind fun x11 =>
 (cond (x1.2 != 0)
 (some true)
 (some (x2.2 != 0)) : Option Bool).bind fun x12 =>
 (cond x12
 (some true)
 (some (x8.2 != 0)) : Option Bool).bind fun x13 =>
 (cond x13
 (some true)
 (some (x9.2 != 0)) : Option Bool).bind fun x14 =>
 (cond x14
 (some true)
 (some (x10.2 != 0)) : Option Bool).bind fun x15 =>
 (cond x15
 (some true)
 (some (x11.2 != 0)) : Option Bool).bind fun x16 =>
 cond x16
 (some false)
 ((cond (x9.1 == a0)
 (some (x10.1 == x8.1))
 (some false) : Option Bool).bind fun x17 =>
 (cond x17
 (some (x11.1 == x8.1))
 (some false) : Option Bool).bind fun x18 =>
 (cond x18
 (cond (x2.1 == 0)
 (some true)
 (some ((decide (x2.1 < 0)) == (decide (a0 < 0)))))
 (some false) : Option Bool).bind fun x19 =>
 (cond x19
 ((law06_awake 60).bind fun x21 =>
 some x21)
 (some false) : Option Bool).bind fun x20 =>
 some x20))
def law06_CalcDivides_s : Shp := ⟨9, [.one (.dat (.int .i64)), .one (.dat (.int .i64))], [], [], ⟨.one (.dat .bool), [], []⟩, none⟩
def law06_CalcDivides_p : Plan := .seq [] none (.leaf) (.seq [] none (.leaf) (.seq [] none (.leaf) (.seq [] none (.seq [] none (.leaf) (.cond (.seq [] none (.region [(6, ⟨[(36, .one (.dat .bool))], [], []⟩, false), (4, ⟨[(40, .one (.dat .bool))], [], []⟩, false), (4, ⟨[(44, .one (.dat .bool))], [], []⟩, false), (3, ⟨[(47, .one (.dat .bool))], [], []⟩, false)]) (.leaf)) (.leaf))) (.seq [] none (.leaf) (.seq [] none (.leaf) (.seq [] none (.leaf) (.seq [] none (.leaf) (.seq [] none (.seq [] none (.region [(6, ⟨[(77, .one (.dat .bool))], [], []⟩, false), (4, ⟨[(81, .one (.dat .bool))], [], []⟩, false), (4, ⟨[(85, .one (.dat .bool))], [], []⟩, false), (4, ⟨[(89, .one (.dat .bool))], [], []⟩, false), (4, ⟨[(93, .one (.dat .bool))], [], []⟩, false)]) (.leaf)) (.seq [] none (.region [(8, ⟨[(101, .one (.dat .bool))], [], []⟩, false), (5, ⟨[(106, .one (.dat .bool))], [], []⟩, false), (11, ⟨[(117, .one (.dat .bool))], [], []⟩, false), (3, ⟨[(120, .one (.dat .bool))], [], []⟩, false)]) (.leaf))))))))))
def law06_CalcDivides_c (F : Nat) : Ctr E := ⟨law06_CalcDivides_s, fun (x : Int × Int) => law06_CalcDivides F x.1 x.2⟩
theorem law06_CalcDivides_ok (F : Nat) : (law06_CalcDivides_c F).Ok Tryz.prog := Ctr.ok_of (X := ⟨Tryz.prog, tyT, [law06_value_c F, law06_awake_c 60]⟩) (F := F) ⟨E_ok, okC (law06_value_ok F) (okC (law06_awake_ok 60) (okN)), mixed⟩ (pl := law06_CalcDivides_p) Tryz.func9 (by kernel_rfl) (fun x => by kernel_rfl)
/- jobshell/jobshelllaw06.truth -/
def law06_truth (F : Nat)  (a0 : Bool) : Option Int :=
 cond a0
 (some 1)
 (some 0)
def law06_truth_s : Shp := ⟨26, [.one (.dat .bool)], [], [], ⟨.one (.dat (.int .i64)), [], []⟩, none⟩
def law06_truth_p : Plan := .leaf
def law06_truth_c (F : Nat) : Ctr E := ⟨law06_truth_s, fun (x : Bool) => law06_truth F x⟩
theorem law06_truth_ok (F : Nat) : (law06_truth_c F).Ok Tryz.prog := Ctr.ok_of (X := ⟨Tryz.prog, tyT, []⟩) (F := F) ⟨E_ok, okN, mixed⟩ (pl := law06_truth_p) Tryz.func26 (by kernel_rfl) (fun x => by kernel_rfl)
/- jobshell/jobshelllaw06.CalcCompares -/
def law06_CalcCompares (F : Nat)  (a0 : Int) (a1 : Int) : Option Bool :=
 (law06_value F 14 a0 a1).bind fun x1 =>
 (law06_value F 15 a0 a1).bind fun x2 =>
 (law06_value F 18 a0 a1).bind fun x3 =>
 (law06_value F 16 a0 a1).bind fun x4 =>
 (law06_value F 17 a0 a1).bind fun x5 =>
 (law06_value F 19 a0 a1).bind fun x6 =>
 (cond (x1.2 != 0)
 (some true)
 (some (x2.2 != 0)) : Option Bool).bind fun x7 =>
 (cond x7
 (some true)
 (some (x3.2 != 0)) : Option Bool).bind fun x8 =>
 (cond x8
 (some true)
 (some (x4.2 != 0)) : Option Bool).bind fun x9 =>
 (cond x9
 (some true)
 (some (x5.2 != 0)) : Option Bool).bind fun x10 =>
 (cond x10
 (some true)
 (some (x6.2 != 0)) : Option Bool).bind fun x11 =>
 cond x11
 (some false)
 ((law06_value F 12 a0 a1).bind fun x12 =>
 (law06_value F 12 a0 (bAnd .i64 a1 63)).bind fun x13 =>
 ((law06_truth F (decide (a0 < a1))).bind fun x15 =>
 cond (x1.1 != x15)
 (some true)
 ((law06_truth F (decide (a1 < a0))).bind fun x16 =>
 some (x2.1 != x16)) : Option Bool).bind fun x14 =>
 (cond x14
 (some true)
 ((law06_truth F (a0 == a1)).bind fun x18 =>
 some (x3.1 != x18)) : Option Bool).bind fun x17 =>
 (cond x17
 (some true)
 ((law06_truth F (decide (a0 ≤ a1))).bind fun x20 =>
 some (x4.1 != x20)) : Option Bool).bind fun x19 =>
 (cond x19
 (some true)
 ((law06_truth F (decide (a1 ≤ a0))).bind fun x22 =>
 some (x5.1 != x22)) : Option Bool).bind fun x21 =>
 (cond x21
 (some true)
 ((law06_truth F (a0 != a1)).bind fun x24 =>
 some (x6.1 != x24)) : Option Bool).bind fun x23 =>
 (cond x23
 (some true)
 (some (x12.2 != 0)) : Option Bool).bind fun x25 =>
 (cond x25
 (some true)
 (some (x13.2 != 0)) : Option Bool).bind fun x26 =>
 cond x26
 (some false)
 ((cond (x12.1 == x13.1)
 ((law06_awake 60).bind fun x28 =>
 some x28)
 (some false) : Option Bool).bind fun x27 =>
 some x27))
def law06_CalcCompares_s : Shp := ⟨10, [.one (.dat (.int .i64)), .one (.dat (.int .i64))], [], [], ⟨.one (.dat .bool), [], []⟩, none⟩
def law06_CalcCompares_p : Plan := .seq [] none (.leaf) (.seq [] none (.leaf) (.seq [] none (.leaf) (.seq [] none (.leaf) (.seq [] none (.leaf) (.seq [] none (.leaf) (.seq [] none (.leaf) (.seq [] none (.seq [] none (.region [(6, ⟨[(62, .one (.dat .bool))], [], []⟩, false), (4, ⟨[(66, .one (.dat .bool))], [], []⟩, false), (4, ⟨[(70, .one (.dat .bool))], [], []⟩, false), (4, ⟨[(74, .one (.dat .bool))], [], []⟩, false), (4, ⟨[(78, .one (.dat .bool))], [], []⟩, false)]) (.leaf)) (.seq [] none (.leaf) (.seq [] none (.leaf) (.seq [] none (.seq [] none (.region [(14, ⟨[(105, .one (.dat .bool))], [], []⟩, false), (8, ⟨[(113, .one (.dat .bool))], [], []⟩, false), (8, ⟨[(121, .one (.dat .bool))], [], []⟩, false), (8, ⟨[(129, .one (.dat .bool))], [], []⟩, false), (8, ⟨[(137, .one (.dat .bool))], [], []⟩, false), (4, ⟨[(141, .one (.dat .bool))], [], []⟩, false), (4, ⟨[(145, .one (.dat .bool))], [], []⟩, false)]) (.leaf)) (.seq [] none (.region [(6, ⟨[(151, .one (.dat .bool))], [], []⟩, false)]) (.leaf))))))))))))
def law06_CalcCompares_c (F : Nat) : Ctr E := ⟨law06_CalcCompares_s, fun (x : Int × Int) => law06_CalcCompares F x.1 x.2⟩
theorem law06_CalcCompares_ok (F : Nat) : (law06_CalcCompares_c F).Ok Tryz.prog := Ctr.ok_of (X := ⟨Tryz.prog, tyT, [law06_value_c F, law06_truth_c F, law06_awake_c 60]⟩) (F := F) ⟨E_ok, okC (law06_value_ok F) (okC (law06_truth_ok F) (okC (law06_awake_ok 60) (okN))), mixed⟩ (pl := law06_CalcCompares_p) Tryz.func10 (by kernel_rfl) (fun x => by kernel_rfl)
/- jobshell/jobshellref06.number -/
def ref06_number (F : Nat)  (a0 : TExpr) : Option (Int × Bool) :=
 cond (a0.fOp == 1)
 (some (a0.fN, true))
 ((cond (a0.fOp == 3)
 (rq (decide (0 < (a0.fKids.length : Int))) (some (((a0.fKids.getD 0 dTExpr).fOp) == 1)))
 (some false) : Option Bool).bind fun x1 =>
 (cond x1
 (rq (decide (0 < (a0.fKids.length : Int))) (some (((a0.fKids.getD 0 dTExpr).fN) != 0)))
 (some false) : Option Bool).bind fun x2 =>
 cond x2
 (rq (decide (0 < (a0.fKids.length : Int))) (some (w64 (0 - ((a0.fKids.getD 0 dTExpr).fN)), true)))
 (some (0, false)))
def ref06_number_s : Shp := ⟨75, [.one (.dat (.ext 1))], [], [], ⟨.tup [.dat (.int .i64), .dat .bool], [], []⟩, none⟩
def ref06_number_p : Plan := .seq [] none (.leaf) (.seq [] none (.leaf) (.seq [] none (.seq [] none (.region [(11, ⟨[(19, .one (.dat .bool))], [none], []⟩, false), (8, ⟨[(27, .one (.dat .bool))], [none], []⟩, false)]) (.leaf)) (.leaf)))
def ref06_number_c (F : Nat) : Ctr E := ⟨ref06_number_s, fun (x : TExpr) => ref06_number F x⟩
theorem ref06_number_ok (F : Nat) : (ref06_number_c F).Ok Tryz.prog := Ctr.ok_of (X := ⟨Tryz.prog, tyT, []⟩) (F := F) ⟨E_ok, okN, mixed⟩ (pl := ref06_number_p) Tryz.func75 (by kernel_rfl) (fun x => by kernel_rfl)
/- jobshell/jobshellref06.expr -/
def ref06_expr (F : Nat)  (a0 : Int) : Option TExpr :=
 cond (decide (a0 < 0))
 (some (TExpr.mk ((TExpr.mk 3 0 [] ([(TExpr.mk 1 (w64 (0 - a0)) [] [])] : List TExpr)).fOp) ((TExpr.mk 3 0 [] ([(TExpr.mk 1 (w64 (0 - a0)) [] [])] : List TExpr)).fN) ((TExpr.mk 3 0 [] ([(TExpr.mk 1 (w64 (0 - a0)) [] [])] : List TExpr)).fName) ((TExpr.mk 3 0 [] ([(TExpr.mk 1 (w64 (0 - a0)) [] [])] : List TExpr)).fKids)))
 (some (TExpr.mk ((TExpr.mk 1 a0 [] []).fOp) ((TExpr.mk 1 a0 [] []).fN) ((TExpr.mk 1 a0 [] []).fName) ((TExpr.mk 1 a0 [] []).fKids)))
def ref06_expr_s : Shp := ⟨77, [.one (.dat (.int .i64))], [], [], ⟨.one (.dat (.ext 1)), [], []⟩, none⟩
def ref06_expr_p : Plan := .leaf
def ref06_expr_c (F : Nat) : Ctr E := ⟨ref06_expr_s, fun (x : Int) => ref06_expr F x⟩
theorem ref06_expr_ok (F : Nat) : (ref06_expr_c F).Ok Tryz.prog := Ctr.ok_of (X := ⟨Tryz.prog, tyT, []⟩) (F := F) ⟨E_ok, okN, mixed⟩ (pl := ref06_expr_p) Tryz.func77 (by kernel_rfl) (fun x => by kernel_rfl)
/- jobshell/jobshellref06.replaced -/
def ref06_replaced (F : Nat)  (a0 : TExpr) (a1 : Int) (a2 : Int) : Option TExpr :=
 (cond (a2 != 0)
 (some true)
 (some (a1 == (-9223372036854775808))) : Option Bool).bind fun x1 =>
 cond x1
 (some (TExpr.mk ((TExpr.mk a0.fOp a0.fN a0.fName a0.fKids).fOp) ((TExpr.mk a0.fOp a0.fN a0.fName a0.fKids).fN) ((TExpr.mk a0.fOp a0.fN a0.fName a0.fKids).fName) ((TExpr.mk a0.fOp a0.fN a0.fName a0.fKids).fKids)))
 ((ref06_expr F a1).bind fun x2 =>
 some (TExpr.mk x2.fOp x2.fN x2.fName x2.fKids))
def ref06_replaced_s : Shp := ⟨76, [.one (.dat (.ext 1)), .one (.dat (.int .i64)), .one (.dat (.int .i64))], [], [], ⟨.one (.dat (.ext 1)), [], []⟩, none⟩
def ref06_replaced_p : Plan := .seq [] none (.leaf) (.seq [] none (.seq [] none (.region [(6, ⟨[(12, .one (.dat .bool))], [none, none], []⟩, false)]) (.leaf)) (.leaf))
def ref06_replaced_c (F : Nat) : Ctr E := ⟨ref06_replaced_s, fun (x : TExpr × Int × Int) => ref06_replaced F x.1 x.2.1 x.2.2⟩
theorem ref06_replaced_ok (F : Nat) : (ref06_replaced_c F).Ok Tryz.prog := Ctr.ok_of (X := ⟨Tryz.prog, tyT, [ref06_expr_c F]⟩) (F := F) ⟨E_ok, okC (ref06_expr_ok F) (okN), mixed⟩ (pl := ref06_replaced_p) Tryz.func76 (by kernel_rfl) (fun x => by kernel_rfl)
/- jobshell/jobshellref06.fold -/
def ref06_fold_m (F : Nat) (r_ref06_fold : TExpr → Option TExpr) (a0 : TExpr) : Option TExpr :=
 cond ((a0.fKids.length : Int) == 0)
 (some (TExpr.mk ((TExpr.mk a0.fOp a0.fN a0.fName a0.fKids).fOp) ((TExpr.mk a0.fOp a0.fN a0.fName a0.fKids).fN) ((TExpr.mk a0.fOp a0.fN a0.fName a0.fKids).fName) ((TExpr.mk a0.fOp a0.fN a0.fName a0.fKids).fKids)))
 (loopF (σ := Int × Int × Int × (List UInt8) × (List TExpr)) (R := TExpr) (fun rc2 x1 =>
 cond (decide (x1.1 < (a0.fKids.length : Int)))
 (rq ((decide (0 ≤ x1.1)) && (decide (x1.1 < (a0.fKids.length : Int)))) ((r_ref06_fold (a0.fKids.getD (Int.toNat x1.1) dTExpr)).bind fun x3 =>
 rq ((decide (x1.2.2.2.2.length + ([x3] : List TExpr).length ≤ 9223372036854775807)) && (decide ((x1.2.2.2.2.length + ([x3] : List TExpr).length) * 56 ≤ 140737488355328))) (rc2 (w64 (x1.1 + 1), x1.2.1, x1.2.2.1, x1.2.2.2.1, x1.2.2.2.2 ++ ([x3] : List TExpr)))))
 (rq (decide (0 < (x1.2.2.2.2.length : Int))) ((ref06_number F (x1.2.2.2.2.getD 0 dTExpr)).bind fun x4 =>
 (cond (a0.fOp == 26)
 (some true)
 (some (!x4.2)) : Option Bool).bind fun x5 =>
 cond x5
 (some (TExpr.mk ((TExpr.mk x1.2.1 x1.2.2.1 x1.2.2.2.1 x1.2.2.2.2).fOp) ((TExpr.mk x1.2.1 x1.2.2.1 x1.2.2.2.1 x1.2.2.2.2).fN) ((TExpr.mk x1.2.1 x1.2.2.1 x1.2.2.2.1 x1.2.2.2.2).fName) ((TExpr.mk x1.2.1 x1.2.2.1 x1.2.2.2.1 x1.2.2.2.2).fKids)))
 ((cond (decide (3 ≤ a0.fOp))
 (some (decide (a0.fOp ≤ 6)))
 (some false) : Option Bool).bind fun x6 =>
 cond x6
 ((ref06_one F a0.fOp x4.1).bind fun x7 =>
 (ref06_replaced F (TExpr.mk x1.2.1 x1.2.2.1 x1.2.2.2.1 x1.2.2.2.2) x7 0).bind fun x8 =>
 some (TExpr.mk x8.fOp x8.fN x8.fName x8.fKids))
 ((cond (a0.fOp == 25)
 (some (x4.1 != 0))
 (some false) : Option Bool).bind fun x9 =>
 cond x9
 (rq (decide (1 < (x1.2.2.2.2.length : Int))) (some (TExpr.mk ((x1.2.2.2.2.getD 1 dTExpr).fOp) ((x1.2.2.2.2.getD 1 dTExpr).fN) ((x1.2.2.2.2.getD 1 dTExpr).fName) ((x1.2.2.2.2.getD 1 dTExpr).fKids))))
 (cond (a0.fOp == 25)
 (rq (decide (2 < (x1.2.2.2.2.length : Int))) (some (TExpr.mk ((x1.2.2.2.2.getD 2 dTExpr).fOp) ((x1.2.2.2.2.getD 2 dTExpr).fN) ((x1.2.2.2.2.getD 2 dTExpr).fName) ((x1.2.2.2.2.getD 2 dTExpr).fKids))))
 ((cond (a0.fOp == 23)
 (some (x4.1 == 0))
 (some false) : Option Bool).bind fun x10 =>
 cond x10
 ((ref06_expr F 0).bind fun x11 =>
 some (TExpr.mk x11.fOp x11.fN x11.fName x11.fKids))
 ((cond (a0.fOp == 24)
 (some (x4.1 != 0))
 (some false) : Option Bool).bind fun x12 =>
 cond x12
 ((ref06_expr F 1).bind fun x13 =>
 some (TExpr.mk x13.fOp x13.fN x13.fName x13.fKids))
 (rq (decide (1 < (x1.2.2.2.2.length : Int))) ((ref06_number F (x1.2.2.2.2.getD 1 dTExpr)).bind fun x14 =>
 cond (!x14.2)
 (some (TExpr.mk ((TExpr.mk x1.2.1 x1.2.2.1 x1.2.2.2.1 x1.2.2.2.2).fOp) ((TExpr.mk x1.2.1 x1.2.2.1 x1.2.2.2.1 x1.2.2.2.2).fN) ((TExpr.mk x1.2.1 x1.2.2.1 x1.2.2.2.1 x1.2.2.2.2).fName) ((TExpr.mk x1.2.1 x1.2.2.1 x1.2.2.2.1 x1.2.2.2.2).fKids)))
 ((cond (a0.fOp == 23)
 (some true)
 (some (a0.fOp == 24)) : Option Bool).bind fun x15 =>
 cond x15
 ((ref06_truth F (x14.1 != 0)).bind fun x16 =>
 (ref06_expr F x16).bind fun x17 =>
 some (TExpr.mk x17.fOp x17.fN x17.fName x17.fKids))
 ((ref06_two F a0.fOp x4.1 x14.1).bind fun x18 =>
 (ref06_replaced F (TExpr.mk x1.2.1 x1.2.2.1 x1.2.2.2.1 x1.2.2.2.2) x18.1 x18.2).bind fun x19 =>
 some (TExpr.mk x19.fOp x19.fN x19.fName x19.fKids))))))))))))) F (0, (TExpr.mk a0.fOp a0.fN a0.fName a0.fKids).fOp, (TExpr.mk a0.fOp a0.fN a0.fName a0.fKids).fN, (TExpr.mk a0.fOp a0.fN a0.fName a0.fKids).fName, ([] : List TExpr)))
def ref06_fold_s : Shp := ⟨43, [.one (.dat (.ext 1))], [], [], ⟨.one (.dat (.ext 1)), [], []⟩, none⟩
def ref06_fold_p : Plan := .seq [] none (.leaf) (.seq [] none (.leaf) (.seq [] none (.leaf) (.seq [] none (.leaf) (.seq [.cell 2 3 31 (.ext 1)] none (.seq [] none (.leaf) (.loop [] ⟨[(4, .one (.dat (.int .i64)))], [none, none, some (.cells 31 [.dat (.int .i64), .dat (.int .i64), .dat .str, .gsl 0 (.ext 1)])], [some (31, 4)]⟩ (.seq [] none (.leaf) (.seq [] none (.drawP [0, 2] [11] [⟨[(0, true), (1, true), (2, true), (3, true), (4, true), (5, true), (6, true), (7, false), (8, false), (9, false), (10, false), (11, false)], none⟩]) (.leaf))))) (.seq [] none (.leaf) (.seq [] none (.seq [] none (.region [(7, ⟨[(50, .one (.dat .bool))], [none, none, none], [none]⟩, false)]) (.cond (.leaf) (.seq [] none (.region [(8, ⟨[(60, .one (.dat .bool))], [none, none, none], [none]⟩, false)]) (.cond (.seq [] none (.drawP [0, 2] [] [⟨[(0, true), (1, true), (2, true), (3, true), (4, false), (5, false), (6, false)], none⟩]) (.leaf)) (.seq [] none (.region [(7, ⟨[(74, .one (.dat .bool))], [none, none, none], [none]⟩, false)]) (.cond (.leaf) (.seq [] none (.leaf) (.cond (.leaf) (.seq [] none (.region [(7, ⟨[(94, .one (.dat .bool))], [none, none, none], [none]⟩, false)]) (.cond (.leaf) (.seq [] none (.region [(7, ⟨[(103, .one (.dat .bool))], [none, none, none], [none]⟩, false)]) (.leaf)))))))))))) (.seq [] none (.leaf) (.seq [] none (.leaf) (.seq [] none (.seq [] none (.region [(8, ⟨[(123, .one (.dat .bool))], [none, none, none], [none]⟩, false)]) (.leaf)) (.leaf))))))))))
def ref06_fold_n (F : Nat) : Nat → TExpr → Option TExpr
  | 0 => fun _ => none
  | n + 1 => ref06_fold_m F (ref06_fold_n F n)
def ref06_fold (F : Nat) (a0 : TExpr) : Option TExpr := ref06_fold_n F F a0
def ref06_fold_cn (F n : Nat) : Ctr E := ⟨ref06_fold_s, fun (x : TExpr) => ref06_fold_n F n x⟩
def ref06_fold_c (F : Nat) : Ctr E := ⟨ref06_fold_s, fun (x : TExpr) => ref06_fold F x⟩
theorem ref06_fold_st (F n : Nat) (h : (ref06_fold_cn F n).Ok Tryz.prog) : (ref06_fold_cn F (n + 1)).Ok Tryz.prog := Ctr.ok_of (X := ⟨Tryz.prog, tyT, [ref06_fold_cn F n, ref06_number_c F, ref06_one_c F, ref06_replaced_c F, ref06_expr_c F, ref06_truth_c F, ref06_two_c F]⟩) (F := F) ⟨E_ok, okC h (okC (ref06_number_ok F) (okC (ref06_one_ok F) (okC (ref06_replaced_ok F) (okC (ref06_expr_ok F) (okC (ref06_truth_ok F) (okC (ref06_two_ok F) (okN))))))), mixed⟩ (pl := ref06_fold_p) Tryz.func43 (by kernel_rfl) (fun x => by kernel_rfl)
theorem ref06_fold_okn (F : Nat) : ∀ n, (ref06_fold_cn F n).Ok Tryz.prog
  | 0 => (fun x y h => nomatch (show none = some y from h))
  | n + 1 => by
    have h := ref06_fold_okn F n
    exact ref06_fold_st F n h
theorem ref06_fold_ok (F : Nat) : (ref06_fold_c F).Ok Tryz.prog := (ref06_fold_okn F F)
/- jobshell/jobshellref06.Fold -/
def ref06_Fold (F : Nat)  (a0 : TExpr) : Option TExpr :=
 (ref05_Valid F (TExpr.mk a0.fOp a0.fN a0.fName a0.fKids)).bind fun x1 =>
 cond (x1 != 0)
 (some (TExpr.mk ((TExpr.mk a0.fOp a0.fN a0.fName a0.fKids).fOp) ((TExpr.mk a0.fOp a0.fN a0.fName a0.fKids).fN) ((TExpr.mk a0.fOp a0.fN a0.fName a0.fKids).fName) ((TExpr.mk a0.fOp a0.fN a0.fName a0.fKids).fKids)))
 ((ref06_fold F (TExpr.mk a0.fOp a0.fN a0.fName a0.fKids)).bind fun x2 =>
 some (TExpr.mk x2.fOp x2.fN x2.fName x2.fKids))
def ref06_Fold_s : Shp := ⟨23, [.one (.dat (.ext 1))], [], [], ⟨.one (.dat (.ext 1)), [], []⟩, none⟩
def ref06_Fold_p : Plan := .leaf
def ref06_Fold_c (F : Nat) : Ctr E := ⟨ref06_Fold_s, fun (x : TExpr) => ref06_Fold F x⟩
theorem ref06_Fold_ok (F : Nat) : (ref06_Fold_c F).Ok Tryz.prog := Ctr.ok_of (X := ⟨Tryz.prog, tyT, [ref05_Valid_c F, ref06_fold_c F]⟩) (F := F) ⟨E_ok, okC (ref05_Valid_ok F) (okC (ref06_fold_ok F) (okN)), mixed⟩ (pl := ref06_Fold_p) Tryz.func23 (by kernel_rfl) (fun x => by kernel_rfl)
/- jobshell/jobshelllaw06.CalcFolds -/
def law06_CalcFolds (F : Nat)  (a0 : TExpr) : Option Bool :=
 (ref05_Small F (TExpr.mk a0.fOp a0.fN a0.fName a0.fKids) 60).bind fun x1 =>
 cond (!x1)
 ((law06_awake 60).bind fun x2 =>
 some x2)
 ((calc_Fold F (TExpr.mk a0.fOp a0.fN a0.fName a0.fKids)).bind fun x3 =>
 (ref06_Fold F (TExpr.mk a0.fOp a0.fN a0.fName a0.fKids)).bind fun x4 =>
 (ref05_Same F (TExpr.mk x3.fOp x3.fN x3.fName x3.fKids) x4).bind fun x5 =>
 cond x5
 ((calc_Fold F (TExpr.mk x3.fOp x3.fN x3.fName x3.fKids)).bind fun x6 =>
 (ref05_Same F x6 (TExpr.mk x3.fOp x3.fN x3.fName x3.fKids)).bind fun x7 =>
 cond x7
 ((law06_awake 60).bind fun x8 =>
 some x8)
 (some false))
 (some false))
def law06_CalcFolds_s : Shp := ⟨6, [.one (.dat (.ext 1))], [], [], ⟨.one (.dat .bool), [], []⟩, none⟩
def law06_CalcFolds_p : Plan := .seq [] none (.leaf) (.seq [] none (.leaf) (.seq [] none (.leaf) (.seq [] none (.drawP [0, 1] [] [⟨[(0, true), (1, true), (2, false), (3, false), (4, false), (5, true), (7, true), (6, false), (8, false), (9, false), (10, false), (11, false), (12, false), (13, false)], none⟩]) (.leaf))))
def law06_CalcFolds_c (F : Nat) : Ctr E := ⟨law06_CalcFolds_s, fun (x : TExpr) => law06_CalcFolds F x⟩
theorem law06_CalcFolds_ok (F : Nat) : (law06_CalcFolds_c F).Ok Tryz.prog := Ctr.ok_of (X := ⟨Tryz.prog, tyT, [ref05_Small_c F, law06_awake_c 60, calc_Fold_c F, ref06_Fold_c F, ref05_Same_c F]⟩) (F := F) ⟨E_ok, okC (ref05_Small_ok F) (okC (law06_awake_ok 60) (okC (calc_Fold_ok F) (okC (ref06_Fold_ok F) (okC (ref05_Same_ok F) (okN))))), mixed⟩ (pl := law06_CalcFolds_p) Tryz.func6 (by kernel_rfl) (fun x => by kernel_rfl)
end Go.Proofs.YtamjncikmfpihaaGreatDoor
