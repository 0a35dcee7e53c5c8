/- models -/
import Derived.Test.YtmcnemjnkiofdaaGreatDoorTy
import Derived.Test.YtmcnemjnkiofdaaGreatDoorHs
namespace Go.Proofs.YtmcnemjnkiofdaaGreatDoor
open Go.RT
set_option linter.all false
set_option maxRecDepth 100000
def indexByteString := ibF
def indexByteString_c (F : Nat) : Ctr E := ibC E 63 F
theorem indexByteString_ok (F : Nat) : (indexByteString_c F).Ok Tryz.prog := ib_ok (fun args w => run_callFunc_extern Tryz.func63 (by kernel_rfl) (by kernel_rfl) (by kernel_rfl) (e := Extern.BytealgIndexByte.indexByte) (by kernel_rfl) args w) F
def stringsRepeat_c (F : Nat) : Ctr E := repC E 55 F
theorem stringsRepeat_ok (F : Nat) : (stringsRepeat_c F).Ok Tryz.prog := rep_ok repAt F
def strconvItoa_c (F : Nat) : Ctr E := itoaC E 98 F
theorem strconvItoa_ok (F : Nat) : (strconvItoa_c F).Ok Tryz.prog := itoa_ok (entersOf Tryz.func98 (by kernel_rfl) (by kernel_rfl)) (fun w G hP => tabIs_of_pins (g := 1) hP (by kernel_rfl) rfl) (fun n h0 h1 w ht => Go.Proofs.Any.strconv_Itoa Tryz.itoaL n h0 h1 w ht) F
def slicesSorted_c (F : Nat) : Ctr E := skC E 72 88 107 .str F
theorem slicesSorted_ok (F : Nat) : (slicesSorted_c F).Ok Tryz.prog := sk_ok (entersOf Tryz.func72 (by kernel_rfl) (by kernel_rfl)) sortedAt (by kernel_rfl) F
def strconvFormatUint_c (F : Nat) : Ctr E := fuC E 56 F
theorem strconvFormatUint_ok (F : Nat) : (strconvFormatUint_c F).Ok Tryz.prog := fu_ok F
def stringsJoin_c (F : Nat) : Ctr E := joinC E 16 F
theorem stringsJoin_ok (F : Nat) : (stringsJoin_c F).Ok Tryz.prog := join_ok joinAt F
/- jobshell/jobshellref03.Short -/
def ref03_Short (F : Nat)  (a0 : List (List UInt8)) (a1 : Int) (a2 : Int) : Option Bool :=
 loopF (σ := Int) (R := Bool) (fun rc2 x1 =>
 (cond (decide (x1 < (a0.length : Int)))
 (some (decide (x1 ≤ a1)))
 (some false) : Option Bool).bind fun x3 =>
 cond x3
 (rq ((decide (0 ≤ x1)) && (decide (x1 < (a0.length : Int)))) (cond (decide (a2 < ((a0.getD (Int.toNat x1) []).length : Int)))
 (some false)
 (rc2 (w64 (x1 + 1)))))
 (some (decide ((a0.length : Int) ≤ a1)))) F 0
def ref03_Short_s : Shp := ⟨6, [.one (.dat (.lst .str)), .one (.dat (.int .i64)), .one (.dat (.int .i64))], [], [], ⟨.one (.dat .bool), [], [], []⟩, none, []⟩
def ref03_Short_p : Plan := .seq [] none (.leaf) (.seq [] none (.seq [] none (.leaf) (.loop [] ⟨[(7, .one (.dat (.int .i64)))], [], [], []⟩ (.seq [] none (.seq [] none (.region [(9, ⟨[(16, .one (.dat .bool))], [], [], []⟩, false)]) (.leaf)) (.leaf)))) (.leaf))
def ref03_Short_c (F : Nat) : Ctr E := ⟨ref03_Short_s, fun (x : (List (List UInt8)) × Int × Int) => ref03_Short F x.1 x.2.1 x.2.2⟩
theorem ref03_Short_ok (F : Nat) : (ref03_Short_c F).Ok Tryz.prog := Ctr.ok_of (X := ⟨Tryz.prog, tyT, []⟩) (F := F) ⟨E_ok, okN, mixed⟩ (pl := ref03_Short_p) Tryz.func6 (by kernel_rfl) (fun x => by kernel_rfl)
/- internal/stringslite.IndexByte -/
def stringslite_IndexByte (F : Nat)  (a0 : List UInt8) (a1 : Int) : Option Int :=
 (indexByteString F a0 a1).bind fun x1 =>
 some x1
def stringslite_IndexByte_s : Shp := ⟨53, [.one (.dat .str), .one (.dat (.int .u8))], [], [], ⟨.one (.dat (.int .i64)), [], [], []⟩, none, []⟩
def stringslite_IndexByte_p : Plan := .leaf
def stringslite_IndexByte_c (F : Nat) : Ctr E := ⟨stringslite_IndexByte_s, fun (x : (List UInt8) × Int) => stringslite_IndexByte F x.1 x.2⟩
theorem stringslite_IndexByte_ok (F : Nat) : (stringslite_IndexByte_c F).Ok Tryz.prog := Ctr.ok_of (X := ⟨Tryz.prog, tyT, [indexByteString_c F]⟩) (F := F) ⟨E_ok, okC (indexByteString_ok F) (okN), mixed⟩ (pl := stringslite_IndexByte_p) Tryz.func53 (by kernel_rfl) (fun x => by kernel_rfl)
/- strings.IndexByte -/
def strings_IndexByte (F : Nat)  (a0 : List UInt8) (a1 : Int) : Option Int :=
 (stringslite_IndexByte F a0 a1).bind fun x1 =>
 some x1
def strings_IndexByte_s : Shp := ⟨32, [.one (.dat .str), .one (.dat (.int .u8))], [], [], ⟨.one (.dat (.int .i64)), [], [], []⟩, none, []⟩
def strings_IndexByte_p : Plan := .leaf
def strings_IndexByte_c (F : Nat) : Ctr E := ⟨strings_IndexByte_s, fun (x : (List UInt8) × Int) => strings_IndexByte F x.1 x.2⟩
theorem strings_IndexByte_ok (F : Nat) : (strings_IndexByte_c F).Ok Tryz.prog := Ctr.ok_of (X := ⟨Tryz.prog, tyT, [stringslite_IndexByte_c F]⟩) (F := F) ⟨E_ok, okC (stringslite_IndexByte_ok F) (okN), mixed⟩ (pl := strings_IndexByte_p) Tryz.func32 (by kernel_rfl) (fun x => by kernel_rfl)
/- jobshell/format.escape -/
def format_escape (F : Nat)  (a0 : List UInt8) (a1 : Int) : Option ((List UInt8) × Int) :=
 cond (decide ((a0.length : Int) < 2))
 (some ([], 0))
 (rq (decide (1 < (a0.length : Int))) ((strings_IndexByte F ([92, 97, 98, 102, 110, 114, 116, 118] : List UInt8) ((a0.getD 1 0).toNat : Int)).bind fun x1 =>
 cond (decide (0 ≤ x1))
 (rq ((decide (0 ≤ x1)) && ((decide (x1 ≤ w64 (x1 + 1))) && (decide (w64 (x1 + 1) ≤ (([92, 7, 8, 12, 10, 13, 9, 11] : List UInt8).length : Int))))) (some (sl ([92, 7, 8, 12, 10, 13, 9, 11] : List UInt8) x1 (w64 (x1 + 1)), 2)))
 ((rq (decide (1 < (a0.length : Int))) (cond (decide (((a0.getD 1 0).toNat : Int) < 48))
 (some true)
 (rq (decide (1 < (a0.length : Int))) (some (decide (55 < ((a0.getD 1 0).toNat : Int)))))) : Option Bool).bind fun x2 =>
 (cond x2
 (some true)
 (cond (a1 == 2)
 (rq (decide (1 < (a0.length : Int))) (some (((a0.getD 1 0).toNat : Int) != 48)))
 (some false)) : Option Bool).bind fun x3 =>
 cond x3
 (some ([], 0))
 (loopF (σ := Int × Int) (R := (List UInt8) × Int) (fun rc5 x4 =>
 (cond (decide (x4.2 < (a0.length : Int)))
 (some (decide (x4.2 < w64 (a1 + 3))))
 (some false) : Option Bool).bind fun x6 =>
 (cond x6
 (rq ((decide (0 ≤ x4.2)) && (decide (x4.2 < (a0.length : Int)))) (some (decide (48 ≤ ((a0.getD (Int.toNat x4.2) 0).toNat : Int)))))
 (some false) : Option Bool).bind fun x7 =>
 (cond x7
 (rq ((decide (0 ≤ x4.2)) && (decide (x4.2 < (a0.length : Int)))) (some (decide (((a0.getD (Int.toNat x4.2) 0).toNat : Int) ≤ 55))))
 (some false) : Option Bool).bind fun x8 =>
 cond x8
 (rq ((decide (0 ≤ x4.2)) && (decide (x4.2 < (a0.length : Int)))) (rc5 (w64 ((w64 (x4.1 * 8)) + (w64 (IntKind.wrap .u8 (((a0.getD (Int.toNat x4.2) 0).toNat : Int) - 48)))), w64 (x4.2 + 1))))
 (some (toBytes ([IntKind.wrap .u8 x4.1] : List Int), x4.2))) F (0, a1)))))
def format_escape_s : Shp := ⟨19, [.one (.dat .str), .one (.dat (.int .i64))], [], [], ⟨.tup [.dat .str, .dat (.int .i64)], [], [], []⟩, none, []⟩
def format_escape_p : Plan := .seq [] none (.leaf) (.seq [] none (.leaf) (.seq [] none (.leaf) (.seq [] none (.seq [] none (.region [(8, ⟨[(28, .one (.dat .bool))], [], [], []⟩, false), (9, ⟨[(37, .one (.dat .bool))], [], [], []⟩, false)]) (.leaf)) (.seq [] none (.leaf) (.seq [] none (.loop [] ⟨[(7, .one (.dat (.int .i64))), (8, .one (.dat (.int .i64)))], [], [], []⟩ (.seq [] none (.seq [] none (.region [(10, ⟨[(48, .one (.dat .bool))], [], [], []⟩, false), (6, ⟨[(54, .one (.dat .bool))], [], [], []⟩, false), (6, ⟨[(60, .one (.dat .bool))], [], [], []⟩, false)]) (.leaf)) (.leaf))) (.leaf))))))
def format_escape_c (F : Nat) : Ctr E := ⟨format_escape_s, fun (x : (List UInt8) × Int) => format_escape F x.1 x.2⟩
theorem format_escape_ok (F : Nat) : (format_escape_c F).Ok Tryz.prog := Ctr.ok_of (X := ⟨Tryz.prog, tyT, [strings_IndexByte_c F]⟩) (F := F) ⟨E_ok, okC (strings_IndexByte_ok F) (okN), mixed⟩ (pl := format_escape_p) Tryz.func19 (by kernel_rfl) (fun x => by kernel_rfl)
/- (*jobshell/format.printer).fail -/
def format_printer_fail (F : Nat)  (a0 : List UInt8) (a1 : List Int) (a2 : List (List UInt8)) (a3 : Bool) (a4 : Bool) (a5 : List UInt8) : Option ((List Int) × (List (List UInt8)) × Bool × Bool × (List UInt8)) :=
 cond (a5 == [])
 (some (a1, a2, a3, a4, a0))
 (some (a1, a2, a3, a4, a5))
def format_printer_fail_s : Shp := ⟨33, [.one (.ptr 0 0), .one (.dat .str)], [.cells 35 [.gsl 0 (.int .u8), .dat (.lst .str), .dat .bool, .dat .bool, .dat .str]], [(5, 1)], ⟨.tup [], [some (.cells 35 [.gsl 0 (.int .u8), .dat (.lst .str), .dat .bool, .dat .bool, .dat .str])], [none], []⟩, none, []⟩
def format_printer_fail_p : Plan := .leaf
def format_printer_fail_c (F : Nat) : Ctr E := ⟨format_printer_fail_s, fun (x : (List UInt8) × (List Int) × (List (List UInt8)) × Bool × Bool × (List UInt8)) => format_printer_fail F x.1 x.2.1 x.2.2.1 x.2.2.2.1 x.2.2.2.2.1 x.2.2.2.2.2⟩
theorem format_printer_fail_ok (F : Nat) : (format_printer_fail_c F).Ok Tryz.prog := Ctr.ok_of (X := ⟨Tryz.prog, tyT, []⟩) (F := F) ⟨E_ok, okN, mixed⟩ (pl := format_printer_fail_p) Tryz.func33 (by kernel_rfl) (fun x => by kernel_rfl)
/- (*jobshell/format.printer).plain -/
def format_printer_plain (F : Nat)  (a0 : List UInt8) (a1 : List Int) (a2 : List (List UInt8)) (a3 : Bool) (a4 : Bool) (a5 : List UInt8) : Option ((List Int) × (List (List UInt8)) × Bool × Bool × (List UInt8)) :=
 cond (decide (w64 (65536 - (a1.length : Int)) < (a0.length : Int)))
 (rq ((decide (0 ≤ w64 (65536 - (a1.length : Int)))) && (decide (w64 (65536 - (a1.length : Int)) ≤ (a0.length : Int)))) (rq ((decide (a1.length + (toInts (sl a0 0 (w64 (65536 - (a1.length : Int))))).length ≤ 9223372036854775807)) && (decide ((a1.length + (toInts (sl a0 0 (w64 (65536 - (a1.length : Int))))).length) * 1 ≤ 140737488355328))) ((format_printer_fail F ([111, 117, 116, 112, 117, 116, 32, 116, 111, 111, 32, 108, 111, 110, 103] : List UInt8) (a1 ++ (toInts (sl a0 0 (w64 (65536 - (a1.length : Int)))))) a2 a3 a4 a5).bind fun x1 =>
 some (x1.1, x1.2.1, x1.2.2.1, true, x1.2.2.2.2))))
 (rq ((decide (a1.length + (toInts a0).length ≤ 9223372036854775807)) && (decide ((a1.length + (toInts a0).length) * 1 ≤ 140737488355328))) (some (a1 ++ (toInts a0), a2, a3, a4, a5)))
def format_printer_plain_s : Shp := ⟨20, [.one (.ptr 0 0), .one (.dat .str)], [.cells 35 [.gsl 0 (.int .u8), .dat (.lst .str), .dat .bool, .dat .bool, .dat .str]], [(5, 1)], ⟨.tup [], [some (.cells 35 [.gsl 0 (.int .u8), .dat (.lst .str), .dat .bool, .dat .bool, .dat .str])], [some (5, 1)], []⟩, none, []⟩
def format_printer_plain_p : Plan := .seq [] none (.seq [] none (.leaf) (.seq [] none (.leaf) (.cond (.seq [] none (.draw [⟨true, 8, none⟩, ⟨false, 4, none⟩]) (.leaf)) (.leaf)))) (.leaf)
def format_printer_plain_c (F : Nat) : Ctr E := ⟨format_printer_plain_s, fun (x : (List UInt8) × (List Int) × (List (List UInt8)) × Bool × Bool × (List UInt8)) => format_printer_plain F x.1 x.2.1 x.2.2.1 x.2.2.2.1 x.2.2.2.2.1 x.2.2.2.2.2⟩
theorem format_printer_plain_ok (F : Nat) : (format_printer_plain_c F).Ok Tryz.prog := Ctr.ok_of (X := ⟨Tryz.prog, tyT, [format_printer_fail_c F]⟩) (F := F) ⟨E_ok, okC (format_printer_fail_ok F) (okN), mixed⟩ (pl := format_printer_plain_p) Tryz.func20 (by kernel_rfl) (fun x => by kernel_rfl)
/- jobshell/format.number -/
def format_number (F : Nat)  (a0 : List UInt8) : Option (Int × Int) :=
 loopF (σ := Int × Int) (R := Int × Int) (fun rc2 x1 =>
 (cond (decide (x1.2 < (a0.length : Int)))
 (rq ((decide (0 ≤ x1.2)) && (decide (x1.2 < (a0.length : Int)))) (some (decide (48 ≤ ((a0.getD (Int.toNat x1.2) 0).toNat : Int)))))
 (some false) : Option Bool).bind fun x3 =>
 (cond x3
 (rq ((decide (0 ≤ x1.2)) && (decide (x1.2 < (a0.length : Int)))) (some (decide (((a0.getD (Int.toNat x1.2) 0).toNat : Int) ≤ 57))))
 (some false) : Option Bool).bind fun x4 =>
 cond x4
 (rq ((decide (0 ≤ x1.2)) && (decide (x1.2 < (a0.length : Int)))) (rc2 (cond (decide (4097 < w64 ((w64 (x1.1 * 10)) + (w64 (IntKind.wrap .u8 (((a0.getD (Int.toNat x1.2) 0).toNat : Int) - 48)))))) 4097 (w64 ((w64 (x1.1 * 10)) + (w64 (IntKind.wrap .u8 (((a0.getD (Int.toNat x1.2) 0).toNat : Int) - 48))))), w64 (x1.2 + 1))))
 (some (x1.1, x1.2))) F (0, 0)
def format_number_s : Shp := ⟨54, [.one (.dat .str)], [], [], ⟨.tup [.dat (.int .i64), .dat (.int .i64)], [], [], []⟩, none, []⟩
def format_number_p : Plan := .seq [] none (.leaf) (.seq [] none (.leaf) (.seq [] none (.loop [] ⟨[(4, .one (.dat (.int .i64))), (5, .one (.dat (.int .i64)))], [], [], []⟩ (.seq [] none (.seq [] none (.region [(10, ⟨[(15, .one (.dat .bool))], [], [], []⟩, false), (6, ⟨[(21, .one (.dat .bool))], [], [], []⟩, false)]) (.leaf)) (.leaf))) (.leaf)))
def format_number_c (F : Nat) : Ctr E := ⟨format_number_s, fun (x : List UInt8) => format_number F x⟩
theorem format_number_ok (F : Nat) : (format_number_c F).Ok Tryz.prog := Ctr.ok_of (X := ⟨Tryz.prog, tyT, []⟩) (F := F) ⟨E_ok, okN, mixed⟩ (pl := format_number_p) Tryz.func54 (by kernel_rfl) (fun x => by kernel_rfl)
/- jobshell/format.read -/
def format_read (F : Nat)  (a0 : List UInt8) : Option (Tspec × Int × Bool) :=
 (loopF (σ := Int × Bool × Bool × Bool × Int × Int × Int) (R := Int × Bool × Bool × Bool × Int × Int × Int) (fun rc3 x2 =>
 cond (decide (x2.1 < (a0.length : Int)))
 (rq ((decide (0 ≤ x2.1)) && (decide (x2.1 < (a0.length : Int)))) (cond (((a0.getD (Int.toNat x2.1) 0).toNat : Int) == 45)
 (rc3 (w64 (x2.1 + 1), true, x2.2.2.1, x2.2.2.2.1, x2.2.2.2.2.1, x2.2.2.2.2.2.1, x2.2.2.2.2.2.2))
 (cond (((a0.getD (Int.toNat x2.1) 0).toNat : Int) == 48)
 (rc3 (w64 (x2.1 + 1), x2.2.1, true, x2.2.2.2.1, x2.2.2.2.2.1, x2.2.2.2.2.2.1, x2.2.2.2.2.2.2))
 (cond (((a0.getD (Int.toNat x2.1) 0).toNat : Int) == 43)
 (rc3 (w64 (x2.1 + 1), x2.2.1, x2.2.2.1, true, x2.2.2.2.2.1, x2.2.2.2.2.2.1, x2.2.2.2.2.2.2))
 (some (x2.1, x2.2.1, x2.2.2.1, x2.2.2.2.1, x2.2.2.2.2.1, x2.2.2.2.2.2.1, x2.2.2.2.2.2.2))))))
 (some (x2.1, x2.2.1, x2.2.2.1, x2.2.2.2.1, x2.2.2.2.2.1, x2.2.2.2.2.2.1, x2.2.2.2.2.2.2))) F (1, (Tspec.mk false false false 0 (-1) 0).fminus, (Tspec.mk false false false 0 (-1) 0).fzero, (Tspec.mk false false false 0 (-1) 0).fplus, (Tspec.mk false false false 0 (-1) 0).fwidth, (Tspec.mk false false false 0 (-1) 0).fprecision, (Tspec.mk false false false 0 (-1) 0).fletter) : Option (Int × Bool × Bool × Bool × Int × Int × Int)).bind fun x1 =>
 rq ((decide (0 ≤ x1.1)) && ((decide (x1.1 ≤ (a0.length : Int))) && (decide ((a0.length : Int) ≤ (a0.length : Int))))) ((format_number F (sl a0 x1.1 (a0.length : Int))).bind fun x4 =>
 ((cond (decide (w64 (x1.1 + x4.2) < (a0.length : Int)))
 (rq ((decide (0 ≤ w64 (x1.1 + x4.2))) && (decide (w64 (x1.1 + x4.2) < (a0.length : Int)))) (some (((a0.getD (Int.toNat (w64 (x1.1 + x4.2))) 0).toNat : Int) == 46)))
 (some false) : Option Bool).bind fun x6 =>
 cond x6
 (rq ((decide (0 ≤ w64 ((w64 (x1.1 + x4.2)) + 1))) && ((decide (w64 ((w64 (x1.1 + x4.2)) + 1) ≤ (a0.length : Int))) && (decide ((a0.length : Int) ≤ (a0.length : Int))))) ((format_number F (sl a0 (w64 ((w64 (x1.1 + x4.2)) + 1)) (a0.length : Int))).bind fun x7 =>
 some (w64 ((w64 (x1.1 + x4.2)) + (w64 (1 + x7.2))), x1.2.1, x1.2.2.1, x1.2.2.2.1, x4.1, x7.1, x1.2.2.2.2.2.2)))
 (some (w64 (x1.1 + x4.2), x1.2.1, x1.2.2.1, x1.2.2.2.1, x4.1, x1.2.2.2.2.2.1, x1.2.2.2.2.2.2)) : Option (Int × Bool × Bool × Bool × Int × Int × Int)).bind fun x5 =>
 (cond (decide ((a0.length : Int) ≤ x5.1))
 (some true)
 (rq ((decide (0 ≤ x5.1)) && (decide (x5.1 < (a0.length : Int)))) ((strings_IndexByte F ([100, 105, 117, 120, 111, 99, 115, 98, 37] : List UInt8) ((a0.getD (Int.toNat x5.1) 0).toNat : Int)).bind fun x9 =>
 some (decide (x9 < 0)))) : Option Bool).bind fun x8 =>
 cond x8
 (some ((Tspec.mk x5.2.1 x5.2.2.1 x5.2.2.2.1 x5.2.2.2.2.1 x5.2.2.2.2.2.1 x5.2.2.2.2.2.2), 0, false))
 (rq ((decide (0 ≤ x5.1)) && (decide (x5.1 < (a0.length : Int)))) (cond (decide (x5.2.2.2.2.1 ≤ 4096))
 (some ((Tspec.mk x5.2.1 x5.2.2.1 x5.2.2.2.1 x5.2.2.2.2.1 x5.2.2.2.2.2.1 ((a0.getD (Int.toNat x5.1) 0).toNat : Int)), w64 (x5.1 + 1), decide (x5.2.2.2.2.2.1 ≤ 4096)))
 (some ((Tspec.mk x5.2.1 x5.2.2.1 x5.2.2.2.1 x5.2.2.2.2.1 x5.2.2.2.2.2.1 ((a0.getD (Int.toNat x5.1) 0).toNat : Int)), w64 (x5.1 + 1), false)))))
def format_read_s : Shp := ⟨34, [.one (.dat .str)], [], [], ⟨.tup [.dat (.ext 0), .dat (.int .i64), .dat .bool], [], [], []⟩, none, []⟩
def format_read_p : Plan := .seq [] none (.leaf) (.seq [] none (.leaf) (.seq [] none (.leaf) (.seq [] (some (⟨[(6, .one (.dat (.int .i64)))], [none, some (.cells 66 [.dat .bool, .dat .bool, .dat .bool, .dat (.int .i64), .dat (.int .i64), .dat (.int .u8)])], [], []⟩, false)) (.loop [] ⟨[(6, .one (.dat (.int .i64)))], [none, some (.cells 66 [.dat .bool, .dat .bool, .dat .bool, .dat (.int .i64), .dat (.int .i64), .dat (.int .u8)])], [], []⟩ (.leaf)) (.seq [] none (.leaf) (.seq [] none (.leaf) (.seq [] none (.leaf) (.seq [] (some (⟨[(6, .one (.dat (.int .i64)))], [none, some (.cells 66 [.dat .bool, .dat .bool, .dat .bool, .dat (.int .i64), .dat (.int .i64), .dat (.int .u8)])], [], []⟩, false)) (.seq [] none (.region [(10, ⟨[(47, .one (.dat .bool))], [none, none], [], []⟩, false)]) (.leaf)) (.seq [] none (.seq [] none (.region [(11, ⟨[(71, .one (.dat .bool))], [none, none], [], []⟩, false)]) (.leaf)) (.seq [] none (.leaf) (.seq [] none (.drawP [1] [] [⟨[(0, true), (1, true), (2, true), (3, true), (4, true), (5, true), (6, true), (7, true), (8, true), (9, true), (10, true), (11, false), (12, false), (13, false)], none⟩]) (.leaf)))))))))))
def format_read_c (F : Nat) : Ctr E := ⟨format_read_s, fun (x : List UInt8) => format_read F x⟩
theorem format_read_ok (F : Nat) : (format_read_c F).Ok Tryz.prog := Ctr.ok_of (X := ⟨Tryz.prog, tyT, [format_number_c F, strings_IndexByte_c F]⟩) (F := F) ⟨E_ok, okC (format_number_ok F) (okC (strings_IndexByte_ok F) (okN)), mixed⟩ (pl := format_read_p) Tryz.func34 (by kernel_rfl) (fun x => by kernel_rfl)
/- (jobshell/format.spec).pad -/
def format_spec_pad (F : Nat)  (a0 : Tspec) (a1 : List UInt8) (a2 : List UInt8) : Option (List UInt8) :=
 cond (decide (w64 ((w64 (a0.fwidth - (a1.length : Int))) - (a2.length : Int)) ≤ 0))
 (rq (decide (a1.length + a2.length ≤ 9223372036854775807)) (some (a1 ++ a2)))
 (cond a0.fminus
 (rq (decide (a1.length + a2.length ≤ 9223372036854775807)) ((repF F ([32] : List UInt8) (w64 ((w64 (a0.fwidth - (a1.length : Int))) - (a2.length : Int)))).bind fun x1 =>
 rq (decide ((a1 ++ a2).length + x1.length ≤ 9223372036854775807)) (some ((a1 ++ a2) ++ x1))))
 ((cond a0.fzero
 (some (decide (a0.fprecision < 0)))
 (some false) : Option Bool).bind fun x2 =>
 (cond x2
 ((strings_IndexByte F ([100, 105, 117, 120, 111] : List UInt8) a0.fletter).bind fun x4 =>
 some (decide (0 ≤ x4)))
 (some false) : Option Bool).bind fun x3 =>
 cond x3
 ((repF F ([48] : List UInt8) (w64 ((w64 (a0.fwidth - (a1.length : Int))) - (a2.length : Int)))).bind fun x5 =>
 rq (decide (a1.length + x5.length ≤ 9223372036854775807)) (rq (decide ((a1 ++ x5).length + a2.length ≤ 9223372036854775807)) (some ((a1 ++ x5) ++ a2))))
 ((repF F ([32] : List UInt8) (w64 ((w64 (a0.fwidth - (a1.length : Int))) - (a2.length : Int)))).bind fun x6 =>
 rq (decide (x6.length + a1.length ≤ 9223372036854775807)) (rq (decide ((x6 ++ a1).length + a2.length ≤ 9223372036854775807)) (some ((x6 ++ a1) ++ a2))))))
def format_spec_pad_s : Shp := ⟨35, [.one (.dat (.ext 0)), .one (.dat .str), .one (.dat .str)], [], [], ⟨.one (.dat .str), [], [], []⟩, none, []⟩
def format_spec_pad_p : Plan := .seq [] none (.leaf) (.seq [] none (.leaf) (.seq [] none (.leaf) (.seq [] none (.leaf) (.seq [] none (.seq [] none (.region [(7, ⟨[(35, .one (.dat .bool))], [none], [], []⟩, false), (6, ⟨[(41, .one (.dat .bool))], [none], [], []⟩, false)]) (.leaf)) (.leaf)))))
def format_spec_pad_c (F : Nat) : Ctr E := ⟨format_spec_pad_s, fun (x : Tspec × (List UInt8) × (List UInt8)) => format_spec_pad F x.1 x.2.1 x.2.2⟩
theorem format_spec_pad_ok (F : Nat) : (format_spec_pad_c F).Ok Tryz.prog := Ctr.ok_of (X := ⟨Tryz.prog, tyT, [stringsRepeat_c F, strings_IndexByte_c F]⟩) (F := F) ⟨E_ok, okC (stringsRepeat_ok F) (okC (strings_IndexByte_ok F) (okN)), mixed⟩ (pl := format_spec_pad_p) Tryz.func35 (by kernel_rfl) (fun x => by kernel_rfl)
/- (*jobshell/format.printer).next -/
def format_printer_next (F : Nat)  (a0 : List Int) (a1 : List (List UInt8)) (a2 : Bool) (a3 : Bool) (a4 : List UInt8) : Option ((List UInt8) × (List Int) × (List (List UInt8)) × Bool × Bool × (List UInt8)) :=
 cond ((a1.length : Int) == 0)
 (some ([], a0, a1, a2, a3, a4))
 (rq (decide (0 < (a1.length : Int))) (rq ((decide (1 ≤ (a1.length : Int))) && (decide ((a1.length : Int) ≤ (a1.length : Int)))) (some (a1.getD 0 [], a0, sl a1 1 (a1.length : Int), true, a3, a4))))
def format_printer_next_s : Shp := ⟨36, [.one (.ptr 0 0)], [.cells 35 [.gsl 0 (.int .u8), .dat (.lst .str), .dat .bool, .dat .bool, .dat .str]], [(5, 1)], ⟨.one (.dat .str), [some (.cells 35 [.gsl 0 (.int .u8), .dat (.lst .str), .dat .bool, .dat .bool, .dat .str])], [none], []⟩, none, []⟩
def format_printer_next_p : Plan := .leaf
def format_printer_next_c (F : Nat) : Ctr E := ⟨format_printer_next_s, fun (x : (List Int) × (List (List UInt8)) × Bool × Bool × (List UInt8)) => format_printer_next F x.1 x.2.1 x.2.2.1 x.2.2.2.1 x.2.2.2.2⟩
theorem format_printer_next_ok (F : Nat) : (format_printer_next_c F).Ok Tryz.prog := Ctr.ok_of (X := ⟨Tryz.prog, tyT, []⟩) (F := F) ⟨E_ok, okN, mixed⟩ (pl := format_printer_next_p) Tryz.func36 (by kernel_rfl) (fun x => by kernel_rfl)
/- (jobshell/format.spec).cut -/
def format_spec_cut (F : Nat)  (a0 : Tspec) (a1 : List UInt8) : Option (List UInt8) :=
 (cond (decide (0 ≤ a0.fprecision))
 (some (decide (a0.fprecision < (a1.length : Int))))
 (some false) : Option Bool).bind fun x1 =>
 cond x1
 (rq ((decide (0 ≤ a0.fprecision)) && (decide (a0.fprecision ≤ (a1.length : Int)))) (some (sl a1 0 a0.fprecision)))
 (some a1)
def format_spec_cut_s : Shp := ⟨37, [.one (.dat (.ext 0)), .one (.dat .str)], [], [], ⟨.one (.dat .str), [], [], []⟩, none, []⟩
def format_spec_cut_p : Plan := .seq [] none (.leaf) (.seq [] none (.seq [] none (.region [(10, ⟨[(14, .one (.dat .bool))], [none], [], []⟩, false)]) (.leaf)) (.leaf))
def format_spec_cut_c (F : Nat) : Ctr E := ⟨format_spec_cut_s, fun (x : Tspec × (List UInt8)) => format_spec_cut F x.1 x.2⟩
theorem format_spec_cut_ok (F : Nat) : (format_spec_cut_c F).Ok Tryz.prog := Ctr.ok_of (X := ⟨Tryz.prog, tyT, []⟩) (F := F) ⟨E_ok, okN, mixed⟩ (pl := format_spec_cut_p) Tryz.func37 (by kernel_rfl) (fun x => by kernel_rfl)
/- jobshell/format.unescape -/
def format_unescape (F : Nat)  (a0 : List UInt8) : Option ((List UInt8) × Bool) :=
 loopF (σ := (List Int) × Int) (R := (List UInt8) × Bool) (fun rc2 x1 =>
 cond (decide (x1.2 < (a0.length : Int)))
 (rq ((decide (0 ≤ x1.2)) && (decide (x1.2 < (a0.length : Int)))) (cond (((a0.getD (Int.toNat x1.2) 0).toNat : Int) != 92)
 (rq ((decide (0 ≤ x1.2)) && (decide (x1.2 < (a0.length : Int)))) (rq ((decide (x1.1.length + ([((a0.getD (Int.toNat x1.2) 0).toNat : Int)] : List Int).length ≤ 9223372036854775807)) && (decide ((x1.1.length + ([((a0.getD (Int.toNat x1.2) 0).toNat : Int)] : List Int).length) * 1 ≤ 140737488355328))) (rc2 (x1.1 ++ ([((a0.getD (Int.toNat x1.2) 0).toNat : Int)] : List Int), w64 (x1.2 + 1)))))
 ((cond (decide (w64 (x1.2 + 1) < (a0.length : Int)))
 (rq ((decide (0 ≤ w64 (x1.2 + 1))) && (decide (w64 (x1.2 + 1) < (a0.length : Int)))) (some (((a0.getD (Int.toNat (w64 (x1.2 + 1))) 0).toNat : Int) == 99)))
 (some false) : Option Bool).bind fun x3 =>
 cond x3
 (some (toBytes x1.1, true))
 (rq ((decide (0 ≤ x1.2)) && ((decide (x1.2 ≤ (a0.length : Int))) && (decide ((a0.length : Int) ≤ (a0.length : Int))))) ((format_escape F (sl a0 x1.2 (a0.length : Int)) 2).bind fun x4 =>
 (cond (x4.2 == 0)
 (rq ((decide (0 ≤ x1.2)) && ((decide (x1.2 ≤ w64 (x1.2 + 1))) && (decide (w64 (x1.2 + 1) ≤ (a0.length : Int))))) (some (sl a0 x1.2 (w64 (x1.2 + 1)), 1)))
 (some (x4.1, x4.2)) : Option ((List UInt8) × Int)).bind fun x5 =>
 rq ((decide (x1.1.length + (toInts x5.1).length ≤ 9223372036854775807)) && (decide ((x1.1.length + (toInts x5.1).length) * 1 ≤ 140737488355328))) (rc2 (x1.1 ++ (toInts x5.1), w64 (x1.2 + x5.2))))))))
 (some (toBytes x1.1, false))) F (([] : List Int), 0)
def format_unescape_s : Shp := ⟨38, [.one (.dat .str)], [], [], ⟨.tup [.dat .str, .dat .bool], [], [], []⟩, none, []⟩
def format_unescape_p : Plan := .seq [] none (.leaf) (.seq [] none (.leaf) (.seq [.slot 4 5 (.int .u8)] none (.seq [] none (.leaf) (.loop [] ⟨[(4, .one (.gsl 0 (.int .u8))), (5, .one (.dat (.int .i64)))], [], [some (5, 1)], []⟩ (.seq [] none (.leaf) (.seq [] none (.leaf) (.seq [] none (.seq [] none (.region [(12, ⟨[(35, .one (.dat .bool))], [], [none], []⟩, false)]) (.leaf)) (.seq [] none (.leaf) (.seq [] (some (⟨[(6, .one (.dat .str)), (7, .one (.dat (.int .i64)))], [], [none], []⟩, false)) (.leaf) (.leaf)))))))) (.leaf)))
def format_unescape_c (F : Nat) : Ctr E := ⟨format_unescape_s, fun (x : List UInt8) => format_unescape F x⟩
theorem format_unescape_ok (F : Nat) : (format_unescape_c F).Ok Tryz.prog := Ctr.ok_of (X := ⟨Tryz.prog, tyT, [format_escape_c F]⟩) (F := F) ⟨E_ok, okC (format_escape_ok F) (okN), mixed⟩ (pl := format_unescape_p) Tryz.func38 (by kernel_rfl) (fun x => by kernel_rfl)
/- (*jobshell/format.printer).put -/
def format_printer_put (F : Nat)  (a0 : List UInt8) (a1 : List Int) (a2 : List (List UInt8)) (a3 : Bool) (a4 : Bool) (a5 : List UInt8) : Option ((List Int) × (List (List UInt8)) × Bool × Bool × (List UInt8)) :=
 cond (decide (w64 (65536 - (a1.length : Int)) < (a0.length : Int)))
 ((format_printer_fail F ([111, 117, 116, 112, 117, 116, 32, 116, 111, 111, 32, 108, 111, 110, 103] : List UInt8) a1 a2 a3 a4 a5).bind fun x1 =>
 some (x1.1, x1.2.1, x1.2.2.1, true, x1.2.2.2.2))
 (rq ((decide (a1.length + (toInts a0).length ≤ 9223372036854775807)) && (decide ((a1.length + (toInts a0).length) * 1 ≤ 140737488355328))) (some (a1 ++ (toInts a0), a2, a3, a4, a5)))
def format_printer_put_s : Shp := ⟨22, [.one (.ptr 0 0), .one (.dat .str)], [.cells 35 [.gsl 0 (.int .u8), .dat (.lst .str), .dat .bool, .dat .bool, .dat .str]], [(5, 1)], ⟨.tup [], [some (.cells 35 [.gsl 0 (.int .u8), .dat (.lst .str), .dat .bool, .dat .bool, .dat .str])], [some (5, 1)], []⟩, none, []⟩
def format_printer_put_p : Plan := .leaf
def format_printer_put_c (F : Nat) : Ctr E := ⟨format_printer_put_s, fun (x : (List UInt8) × (List Int) × (List (List UInt8)) × Bool × Bool × (List UInt8)) => format_printer_put F x.1 x.2.1 x.2.2.1 x.2.2.2.1 x.2.2.2.2.1 x.2.2.2.2.2⟩
theorem format_printer_put_ok (F : Nat) : (format_printer_put_c F).Ok Tryz.prog := Ctr.ok_of (X := ⟨Tryz.prog, tyT, [format_printer_fail_c F]⟩) (F := F) ⟨E_ok, okC (format_printer_fail_ok F) (okN), mixed⟩ (pl := format_printer_put_p) Tryz.func22 (by kernel_rfl) (fun x => by kernel_rfl)
/- jobshell/arith.binaries -/
def arith_binaries (F : Nat)   : Option (List Tbinary) :=
 some ([(Tbinary.mk ([124, 124] : List UInt8) 3 24), (Tbinary.mk ([38, 38] : List UInt8) 4 23), (Tbinary.mk ([124] : List UInt8) 5 22), (Tbinary.mk ([94] : List UInt8) 6 21), (Tbinary.mk ([38] : List UInt8) 7 20), (Tbinary.mk ([61, 61] : List UInt8) 8 18), (Tbinary.mk ([33, 61] : List UInt8) 8 19), (Tbinary.mk ([60] : List UInt8) 9 14), (Tbinary.mk ([62] : List UInt8) 9 15), (Tbinary.mk ([60, 61] : List UInt8) 9 16), (Tbinary.mk ([62, 61] : List UInt8) 9 17), (Tbinary.mk ([60, 60] : List UInt8) 10 12), (Tbinary.mk ([62, 62] : List UInt8) 10 13), (Tbinary.mk ([43] : List UInt8) 11 10), (Tbinary.mk ([45] : List UInt8) 11 11), (Tbinary.mk ([42] : List UInt8) 12 7), (Tbinary.mk ([47] : List UInt8) 12 8), (Tbinary.mk ([37] : List UInt8) 12 9)] : List Tbinary)
def arith_binaries_s : Shp := ⟨106, [], [], [], ⟨.one (.dat (.lst (.ext 3))), [], [], []⟩, none, []⟩
def arith_binaries_p : Plan := .leaf
def arith_binaries_c (F : Nat) : Ctr E := ⟨arith_binaries_s, fun (x : Unit) => arith_binaries F ⟩
theorem arith_binaries_ok (F : Nat) : (arith_binaries_c F).Ok Tryz.prog := Ctr.ok_of (X := ⟨Tryz.prog, tyT, []⟩) (F := F) ⟨E_ok, okN, mixed⟩ (pl := arith_binaries_p) Tryz.func106 (by kernel_rfl) (fun x => by kernel_rfl)
/- jobshell/arith.describe -/
def arith_describe (F : Nat)  (a0 : Int) : Option (Int × (List UInt8)) :=
 (cond (a0 == 1)
 (some (a0 == 1))
 (some (a0 == 2)) : Option Bool).bind fun x1 =>
 cond x1
 (some (14, []))
 (cond (a0 == 3)
 (some (13, ([45] : List UInt8)))
 (cond (a0 == 4)
 (some (13, ([43] : List UInt8)))
 (cond (a0 == 5)
 (some (13, ([33] : List UInt8)))
 (cond (a0 == 6)
 (some (13, ([126] : List UInt8)))
 (cond (a0 == 25)
 (some (2, ([63] : List UInt8)))
 (cond (a0 == 26)
 (some (1, ([61] : List UInt8)))
 ((arith_binaries F).bind fun x2 =>
 loopF (σ := Int) (R := Int × (List UInt8)) (fun rc4 x3 =>
 cond (decide (x3 < (x2.length : Int)))
 (rq ((decide (0 ≤ x3)) && (decide (x3 < (x2.length : Int)))) (cond (((x2.getD (Int.toNat x3) dTbinary).fop) == a0)
 (some ((x2.getD (Int.toNat x3) dTbinary).flevel, (x2.getD (Int.toNat x3) dTbinary).fsymbol))
 (rc4 (w64 (x3 + 1)))))
 (some (0, []))) F 0)))))))
def arith_describe_s : Shp := ⟨94, [.one (.dat (.int .i64))], [], [], ⟨.tup [.dat (.int .i64), .dat .str], [], [], []⟩, none, []⟩
def arith_describe_p : Plan := .seq [] none (.leaf) (.seq [] none (.seq [] none (.leaf) (.seq [] (some (⟨[(7, .one (.dat .bool))], [], [], []⟩, false)) (.leaf) (.leaf))) (.seq [] none (.seq [] none (.leaf) (.loop [] ⟨[(24, .one (.dat (.int .i64)))], [], [], []⟩ (.seq [] none (.leaf) (.seq [] none (.leaf) (.seq [] none (.seq [] none (.leaf) (.seq [] none (.leaf) (.cond (.seq [] none (.draw [⟨true, 6, none⟩]) (.leaf)) (.leaf)))) (.leaf)))))) (.leaf)))
def arith_describe_c (F : Nat) : Ctr E := ⟨arith_describe_s, fun (x : Int) => arith_describe F x⟩
theorem arith_describe_ok (F : Nat) : (arith_describe_c F).Ok Tryz.prog := Ctr.ok_of (X := ⟨Tryz.prog, tyT, [arith_binaries_c F]⟩) (F := F) ⟨E_ok, okC (arith_binaries_ok F) (okN), mixed⟩ (pl := arith_describe_p) Tryz.func94 (by kernel_rfl) (fun x => by kernel_rfl)
/- jobshell/arith.compound -/
def arith_compound (F : Nat)  (a0 : Int) : Option Bool :=
 cond (a0 == 10)
 (cond (a0 == 10)
 (some true)
 (some false))
 (cond (a0 == 11)
 (cond (a0 == 11)
 (some true)
 (some false))
 (cond (a0 == 7)
 (cond (a0 == 7)
 (some true)
 (some false))
 (cond (a0 == 8)
 (cond (a0 == 8)
 (some true)
 (some false))
 (cond (a0 == 9)
 (cond (a0 == 9)
 (some true)
 (some false))
 (cond (a0 == 12)
 (cond (a0 == 12)
 (some true)
 (some false))
 (cond (a0 == 13)
 (cond (a0 == 13)
 (some true)
 (some false))
 (cond (a0 == 20)
 (cond (a0 == 20)
 (some true)
 (some false))
 (cond (a0 == 21)
 (cond (a0 == 21)
 (some true)
 (some false))
 (cond (a0 == 22)
 (some true)
 (some false))))))))))
def arith_compound_s : Shp := ⟨95, [.one (.dat (.int .i64))], [], [], ⟨.one (.dat .bool), [], [], []⟩, none, []⟩
def arith_compound_p : Plan := .leaf
def arith_compound_c (F : Nat) : Ctr E := ⟨arith_compound_s, fun (x : Int) => arith_compound F x⟩
theorem arith_compound_ok (F : Nat) : (arith_compound_c F).Ok Tryz.prog := Ctr.ok_of (X := ⟨Tryz.prog, tyT, []⟩) (F := F) ⟨E_ok, okN, mixed⟩ (pl := arith_compound_p) Tryz.func95 (by kernel_rfl) (fun x => by kernel_rfl)
/- jobshell/chars.letter -/
def chars_letter (F : Nat)  (a0 : Int) : Option Bool :=
 (cond (decide (65 ≤ a0))
 (some (decide (a0 ≤ 90)))
 (some false) : Option Bool).bind fun x1 =>
 (cond x1
 (some true)
 (cond (decide (97 ≤ a0))
 (some (decide (a0 ≤ 122)))
 (some false)) : Option Bool).bind fun x2 =>
 some x2
def chars_letter_s : Shp := ⟨107, [.one (.dat (.int .i32))], [], [], ⟨.one (.dat .bool), [], [], []⟩, none, []⟩
def chars_letter_p : Plan := .seq [] none (.leaf) (.seq [] none (.region [(6, ⟨[(8, .one (.dat .bool))], [], [], []⟩, false), (8, ⟨[(16, .one (.dat .bool))], [], [], []⟩, false)]) (.leaf))
def chars_letter_c (F : Nat) : Ctr E := ⟨chars_letter_s, fun (x : Int) => chars_letter F x⟩
theorem chars_letter_ok (F : Nat) : (chars_letter_c F).Ok Tryz.prog := Ctr.ok_of (X := ⟨Tryz.prog, tyT, []⟩) (F := F) ⟨E_ok, okN, mixed⟩ (pl := chars_letter_p) Tryz.func107 (by kernel_rfl) (fun x => by kernel_rfl)
/- jobshell/chars.digit -/
def chars_digit (F : Nat)  (a0 : Int) : Option Bool :=
 (cond (decide (48 ≤ a0))
 (some (decide (a0 ≤ 57)))
 (some false) : Option Bool).bind fun x1 =>
 some x1
def chars_digit_s : Shp := ⟨108, [.one (.dat (.int .i32))], [], [], ⟨.one (.dat .bool), [], [], []⟩, none, []⟩
def chars_digit_p : Plan := .seq [] none (.leaf) (.seq [] none (.region [(6, ⟨[(8, .one (.dat .bool))], [], [], []⟩, false)]) (.leaf))
def chars_digit_c (F : Nat) : Ctr E := ⟨chars_digit_s, fun (x : Int) => chars_digit F x⟩
theorem chars_digit_ok (F : Nat) : (chars_digit_c F).Ok Tryz.prog := Ctr.ok_of (X := ⟨Tryz.prog, tyT, []⟩) (F := F) ⟨E_ok, okN, mixed⟩ (pl := chars_digit_p) Tryz.func108 (by kernel_rfl) (fun x => by kernel_rfl)
/- jobshell/chars.Name -/
def chars_Name (F : Nat)  (a0 : List UInt8) : Option Bool :=
 (cond (decide ((a0.length : Int) < 1))
 (some true)
 (some (decide (32 < (a0.length : Int)))) : Option Bool).bind fun x1 =>
 cond x1
 (some false)
 (loopF (σ := (List UInt8) × Int) (R := Bool) (fun rc3 x2 =>
 cond (Nat.blt (Int.toNat x2.2) x2.1.length)
 (((chars_letter F ((dec x2.1 (Int.toNat x2.2)).1 : Int)).bind fun x5 =>
 cond x5
 (some true)
 (some (((dec x2.1 (Int.toNat x2.2)).1 : Int) == 95)) : Option Bool).bind fun x4 =>
 (cond x4
 (some true)
 ((chars_digit F ((dec x2.1 (Int.toNat x2.2)).1 : Int)).bind fun x7 =>
 cond x7
 (some (decide (0 < (((Int.toNat x2.2) : Nat) : Int))))
 (some false)) : Option Bool).bind fun x6 =>
 cond x6
 (rc3 (x2.1, ((((Int.toNat x2.2) + (dec x2.1 (Int.toNat x2.2)).2) : Nat) : Int)))
 (some false))
 (some true)) F (a0, ((0 : Nat) : Int)))
def chars_Name_s : Shp := ⟨96, [.one (.dat .str)], [], [], ⟨.one (.dat .bool), [], [], []⟩, none, []⟩
def chars_Name_p : Plan := .seq [] none (.leaf) (.seq [] none (.seq [] none (.region [(8, ⟨[(12, .one (.dat .bool))], [], [], []⟩, false)]) (.leaf)) (.seq [] none (.seq [] none (.leaf) (.loop [] ⟨[], [some (.iter)], [], []⟩ (.seq [] none (.leaf) (.seq [] none (.leaf) (.seq [] none (.leaf) (.seq [] none (.seq [] none (.region [(6, ⟨[(24, .one (.dat .bool))], [none], [], []⟩, false), (8, ⟨[(32, .one (.dat .bool))], [none], [], []⟩, false)]) (.leaf)) (.leaf))))))) (.leaf)))
def chars_Name_c (F : Nat) : Ctr E := ⟨chars_Name_s, fun (x : List UInt8) => chars_Name F x⟩
theorem chars_Name_ok (F : Nat) : (chars_Name_c F).Ok Tryz.prog := Ctr.ok_of (X := ⟨Tryz.prog, tyT, [chars_letter_c F, chars_digit_c F]⟩) (F := F) ⟨E_ok, okC (chars_letter_ok F) (okC (chars_digit_ok F) (okN)), mixed⟩ (pl := chars_Name_p) Tryz.func96 (by kernel_rfl) (fun x => by kernel_rfl)
/- jobshell/arith.valid -/
def arith_valid_m (F : Nat) (r_arith_valid : TExpr → Int → Option Int) (a0 : TExpr) (a1 : Int) : Option Int :=
 cond (a1 == 32)
 (some 5)
 ((arith_describe F a0.fOp).bind fun x1 =>
 jj (σ := Int) (R := Int) (cond (x1.1 == 0)
 (some (.inr 1))
 ((cond (x1.1 == 1)
 (some (x1.1 == 1))
 (some (x1.1 == 13)) : Option Bool).bind fun x3 =>
 cond x3
 (some (.inl 1))
 (cond (x1.1 == 2)
 (some (.inl 3))
 (cond (x1.1 == 14)
 (some (.inl 0))
 (some (.inl 2)))))) fun x2 =>
 (cond (a0.fOp == 2)
 (some true)
 (some (a0.fOp == 26)) : Option Bool).bind fun x4 =>
 (cond (a0.fOp == 1)
 (some (decide (0 ≤ a0.fN)))
 (cond (a0.fOp == 26)
 ((cond (a0.fN == 0)
 (some true)
 ((arith_compound F a0.fN).bind fun x7 =>
 some x7) : Option Bool).bind fun x6 =>
 some x6)
 (some (a0.fN == 0))) : Option Bool).bind fun x5 =>
 (cond ((a0.fKids.length : Int) != x2)
 (some true)
 (some (!x5)) : Option Bool).bind fun x8 =>
 (cond x8
 (some true)
 (some (!(x4 == (!(a0.fName == []))))) : Option Bool).bind fun x9 =>
 cond x9
 (some 1)
 ((cond x4
 ((chars_Name F a0.fName).bind fun x11 =>
 some (!x11))
 (some false) : Option Bool).bind fun x10 =>
 cond x10
 (some 10)
 (loopF (σ := Int) (R := Int) (fun rc13 x12 =>
 cond (decide (x12 < (a0.fKids.length : Int)))
 (rq ((decide (0 ≤ x12)) && (decide (x12 < (a0.fKids.length : Int)))) ((r_arith_valid (TExpr.mk ((a0.fKids.getD (Int.toNat x12) dTExpr).fOp) ((a0.fKids.getD (Int.toNat x12) dTExpr).fN) ((a0.fKids.getD (Int.toNat x12) dTExpr).fName) ((a0.fKids.getD (Int.toNat x12) dTExpr).fKids)) (w64 (a1 + 1))).bind fun x14 =>
 cond (x14 != 0)
 (some x14)
 (rc13 (w64 (x12 + 1)))))
 (some 0)) F 0)))
def arith_valid_s : Shp := ⟨81, [.one (.dat (.ext 1)), .one (.dat (.int .i64))], [], [], ⟨.one (.dat (.int .i64)), [], [], []⟩, none, []⟩
def arith_valid_p : Plan := .seq [] none (.leaf) (.seq [] none (.leaf) (.seq [] none (.leaf) (.seq [] none (.leaf) (.seq [] (some (⟨[(7, .one (.dat (.int .i64)))], [none], [], []⟩, true)) (.seq [] none (.leaf) (.seq [] none (.leaf) (.cond (.leaf) (.seq [] (some (⟨[(24, .one (.dat .bool))], [none], [], []⟩, false)) (.leaf) (.leaf))))) (.seq [] none (.region [(8, ⟨[(38, .one (.dat .bool))], [none], [], []⟩, false)]) (.seq [] none (.leaf) (.seq [] (some (⟨[(9, .one (.dat .bool))], [none], [], []⟩, false)) (.seq [] none (.leaf) (.seq [] none (.leaf) (.cond (.leaf) (.seq [] none (.leaf) (.cond (.region [(8, ⟨[(58, .one (.dat .bool))], [none], [], []⟩, false)]) (.leaf)))))) (.seq [] none (.seq [] none (.region [(9, ⟨[(67, .one (.dat .bool))], [none], [], []⟩, false), (7, ⟨[(74, .one (.dat .bool))], [none], [], []⟩, false)]) (.leaf)) (.seq [] none (.seq [] none (.region [(7, ⟨[(81, .one (.dat .bool))], [none], [], []⟩, false)]) (.leaf)) (.seq [] none (.seq [] none (.leaf) (.loop [] ⟨[(85, .one (.dat (.int .i64)))], [none], [], []⟩ (.leaf))) (.leaf)))))))))))
def arith_valid_n (F : Nat) : Nat → TExpr → Int → Option Int
  | 0 => fun _ _ => none
  | n + 1 => arith_valid_m F (arith_valid_n F n)
def arith_valid (F : Nat) (a0 : TExpr) (a1 : Int) : Option Int := arith_valid_n F F a0 a1
def arith_valid_cn (F n : Nat) : Ctr E := ⟨arith_valid_s, fun (x : TExpr × Int) => arith_valid_n F n x.1 x.2⟩
def arith_valid_c (F : Nat) : Ctr E := ⟨arith_valid_s, fun (x : TExpr × Int) => arith_valid F x.1 x.2⟩
theorem arith_valid_st (F n : Nat) (h : (arith_valid_cn F n).Ok Tryz.prog) : (arith_valid_cn F (n + 1)).Ok Tryz.prog := Ctr.ok_of (X := ⟨Tryz.prog, tyT, [arith_describe_c F, arith_compound_c F, chars_Name_c F, arith_valid_cn F n]⟩) (F := F) ⟨E_ok, okC (arith_describe_ok F) (okC (arith_compound_ok F) (okC (chars_Name_ok F) (okC h (okN)))), mixed⟩ (pl := arith_valid_p) Tryz.func81 (by kernel_rfl) (fun x => by kernel_rfl)
theorem arith_valid_okn (F : Nat) : ∀ n, (arith_valid_cn F n).Ok Tryz.prog
  | 0 => (fun x y h => nomatch (show none = some y from h))
  | n + 1 => by
    have h := arith_valid_okn F n
    exact arith_valid_st F n h
theorem arith_valid_ok (F : Nat) : (arith_valid_c F).Ok Tryz.prog := (arith_valid_okn F F)
/- jobshell/arith.Valid -/
def arith_Valid (F : Nat)  (a0 : TExpr) : Option Int :=
 (arith_valid F (TExpr.mk a0.fOp a0.fN a0.fName a0.fKids) 0).bind fun x1 =>
 some x1
def arith_Valid_s : Shp := ⟨68, [.one (.dat (.ext 1))], [], [], ⟨.one (.dat (.int .i64)), [], [], []⟩, none, []⟩
def arith_Valid_p : Plan := .leaf
def arith_Valid_c (F : Nat) : Ctr E := ⟨arith_Valid_s, fun (x : TExpr) => arith_Valid F x⟩
theorem arith_Valid_ok (F : Nat) : (arith_Valid_c F).Ok Tryz.prog := Ctr.ok_of (X := ⟨Tryz.prog, tyT, [arith_valid_c F]⟩) (F := F) ⟨E_ok, okC (arith_valid_ok F) (okN), mixed⟩ (pl := arith_Valid_p) Tryz.func68 (by kernel_rfl) (fun x => by kernel_rfl)
/- jobshell/calc.Eval$1 -/
def calc_Eval_1 (F : Nat)  (a0 : List UInt8) (a1 : List UInt8) (a2 : List ((List UInt8) × (List UInt8))) : Option (List ((List UInt8) × (List UInt8))) :=
 some (mset keq a2 a0 a1)
def calc_Eval_1_s : Shp := ⟨69, [.one (.dat .str), .one (.dat .str), .one (.ptr 0 0)], [.cells 107 [.mref 1], .map .str .str], [], ⟨.tup [], [none, some (.map .str .str)], [], []⟩, none, []⟩
def calc_Eval_1_p : Plan := .leaf
def calc_Eval_1_c (F : Nat) : Ctr E := ⟨calc_Eval_1_s, fun (x : (List UInt8) × (List UInt8) × (List ((List UInt8) × (List UInt8)))) => calc_Eval_1 F x.1 x.2.1 x.2.2⟩
theorem calc_Eval_1_ok (F : Nat) : (calc_Eval_1_c F).Ok Tryz.prog := Ctr.ok_of (X := ⟨Tryz.prog, tyT, []⟩) (F := F) ⟨E_ok, okN, mixed⟩ (pl := calc_Eval_1_p) Tryz.func69 (by kernel_rfl) (fun x => by kernel_rfl)
/- jobshell/calc.Eval$2 -/
def calc_Eval_2 (F : Nat)  (a0 : List UInt8) (a1 : List ((List UInt8) × (List UInt8))) : Option (List UInt8) :=
 some (mget keq a1 a0 [])
def calc_Eval_2_s : Shp := ⟨70, [.one (.dat .str), .one (.ptr 0 0)], [.cells 107 [.mref 1], .map .str .str], [], ⟨.one (.dat .str), [none, none], [], []⟩, none, []⟩
def calc_Eval_2_p : Plan := .leaf
def calc_Eval_2_c (F : Nat) : Ctr E := ⟨calc_Eval_2_s, fun (x : (List UInt8) × (List ((List UInt8) × (List UInt8)))) => calc_Eval_2 F x.1 x.2⟩
theorem calc_Eval_2_ok (F : Nat) : (calc_Eval_2_c F).Ok Tryz.prog := Ctr.ok_of (X := ⟨Tryz.prog, tyT, []⟩) (F := F) ⟨E_ok, okN, mixed⟩ (pl := calc_Eval_2_p) Tryz.func70 (by kernel_rfl) (fun x => by kernel_rfl)
/- internal/stringslite.HasPrefix -/
def stringslite_HasPrefix (F : Nat)  (a0 : List UInt8) (a1 : List UInt8) : Option Bool :=
 (cond (decide ((a1.length : Int) ≤ (a0.length : Int)))
 (rq ((decide (0 ≤ (a1.length : Int))) && (decide ((a1.length : Int) ≤ (a0.length : Int)))) (some ((sl a0 0 (a1.length : Int)) == a1)))
 (some false) : Option Bool).bind fun x1 =>
 some x1
def stringslite_HasPrefix_s : Shp := ⟨76, [.one (.dat .str), .one (.dat .str)], [], [], ⟨.one (.dat .bool), [], [], []⟩, none, []⟩
def stringslite_HasPrefix_p : Plan := .seq [] none (.leaf) (.seq [] none (.region [(13, ⟨[(17, .one (.dat .bool))], [], [], []⟩, false)]) (.leaf))
def stringslite_HasPrefix_c (F : Nat) : Ctr E := ⟨stringslite_HasPrefix_s, fun (x : (List UInt8) × (List UInt8)) => stringslite_HasPrefix F x.1 x.2⟩
theorem stringslite_HasPrefix_ok (F : Nat) : (stringslite_HasPrefix_c F).Ok Tryz.prog := Ctr.ok_of (X := ⟨Tryz.prog, tyT, []⟩) (F := F) ⟨E_ok, okN, mixed⟩ (pl := stringslite_HasPrefix_p) Tryz.func76 (by kernel_rfl) (fun x => by kernel_rfl)
/- strings.HasPrefix -/
def strings_HasPrefix (F : Nat)  (a0 : List UInt8) (a1 : List UInt8) : Option Bool :=
 (stringslite_HasPrefix F a0 a1).bind fun x1 =>
 some x1
def strings_HasPrefix_s : Shp := ⟨65, [.one (.dat .str), .one (.dat .str)], [], [], ⟨.one (.dat .bool), [], [], []⟩, none, []⟩
def strings_HasPrefix_p : Plan := .leaf
def strings_HasPrefix_c (F : Nat) : Ctr E := ⟨strings_HasPrefix_s, fun (x : (List UInt8) × (List UInt8)) => strings_HasPrefix F x.1 x.2⟩
theorem strings_HasPrefix_ok (F : Nat) : (strings_HasPrefix_c F).Ok Tryz.prog := Ctr.ok_of (X := ⟨Tryz.prog, tyT, [stringslite_HasPrefix_c F]⟩) (F := F) ⟨E_ok, okC (stringslite_HasPrefix_ok F) (okN), mixed⟩ (pl := strings_HasPrefix_p) Tryz.func65 (by kernel_rfl) (fun x => by kernel_rfl)
/- jobshell/calc.digit -/
def calc_digit (F : Nat)  (a0 : Int) : Option Int :=
 (cond (decide (48 ≤ a0))
 (some (decide (a0 ≤ 57)))
 (some false) : Option Bool).bind fun x1 =>
 cond x1
 (some (IntKind.wrap .u64 (IntKind.wrap .u8 (a0 - 48))))
 ((cond (decide (97 ≤ a0))
 (some (decide (a0 ≤ 102)))
 (some false) : Option Bool).bind fun x2 =>
 cond x2
 (some (IntKind.wrap .u64 ((IntKind.wrap .u64 (IntKind.wrap .u8 (a0 - 97))) + 10)))
 ((cond (decide (65 ≤ a0))
 (some (decide (a0 ≤ 70)))
 (some false) : Option Bool).bind fun x3 =>
 cond x3
 (some (IntKind.wrap .u64 ((IntKind.wrap .u64 (IntKind.wrap .u8 (a0 - 65))) + 10)))
 (some 16)))
def calc_digit_s : Shp := ⟨121, [.one (.dat (.int .u8))], [], [], ⟨.one (.dat (.int .u64)), [], [], []⟩, none, []⟩
def calc_digit_p : Plan := .seq [] none (.leaf) (.seq [] none (.seq [] none (.region [(6, ⟨[(9, .one (.dat .bool))], [], [], []⟩, false)]) (.cond (.leaf) (.seq [] none (.region [(6, ⟨[(19, .one (.dat .bool))], [], [], []⟩, false)]) (.cond (.leaf) (.seq [] none (.region [(6, ⟨[(30, .one (.dat .bool))], [], [], []⟩, false)]) (.leaf)))))) (.leaf))
def calc_digit_c (F : Nat) : Ctr E := ⟨calc_digit_s, fun (x : Int) => calc_digit F x⟩
theorem calc_digit_ok (F : Nat) : (calc_digit_c F).Ok Tryz.prog := Ctr.ok_of (X := ⟨Tryz.prog, tyT, []⟩) (F := F) ⟨E_ok, okN, mixed⟩ (pl := calc_digit_p) Tryz.func121 (by kernel_rfl) (fun x => by kernel_rfl)
/- jobshell/calc.magnitude -/
def calc_magnitude (F : Nat)  (a0 : List UInt8) : Option (Int × Int) :=
 (((strings_HasPrefix F a0 ([48, 120] : List UInt8)).bind fun x3 =>
 cond x3
 (some true)
 ((strings_HasPrefix F a0 ([48, 88] : List UInt8)).bind fun x4 =>
 some x4) : Option Bool).bind fun x2 =>
 cond x2
 (rq ((decide (2 ≤ (a0.length : Int))) && (decide ((a0.length : Int) ≤ (a0.length : Int)))) (some (16, sl a0 2 (a0.length : Int))))
 ((strings_HasPrefix F a0 ([48] : List UInt8)).bind fun x5 =>
 cond x5
 (some (8, a0))
 (some (10, a0))) : Option (Int × (List UInt8))).bind fun x1 =>
 cond (x1.2 == [])
 (some (0, 6))
 (loopF (σ := Int × Bool × Int) (R := Int × Int) (fun rc7 x6 =>
 cond (decide (x6.2.2 < (x1.2.length : Int)))
 (rq ((decide (0 ≤ x6.2.2)) && (decide (x6.2.2 < (x1.2.length : Int)))) ((calc_digit F ((x1.2.getD (Int.toNat x6.2.2) 0).toNat : Int)).bind fun x8 =>
 cond (decide (x1.1 ≤ x8))
 (some (0, 6))
 ((cond x6.2.1
 (some true)
 (rq (!(x1.1 == 0)) (some (decide (IntKind.wrap .u64 (Int.tdiv (IntKind.wrap .u64 (9223372036854775808 - x8)) x1.1) < x6.1)))) : Option Bool).bind fun x9 =>
 cond x9
 (rc7 (x6.1, true, w64 (x6.2.2 + 1)))
 (rc7 (IntKind.wrap .u64 ((IntKind.wrap .u64 (x6.1 * x1.1)) + x8), x6.2.1, w64 (x6.2.2 + 1))))))
 (cond x6.2.1
 (some (0, 14))
 (some (x6.1, 0)))) F (0, false, 0))
def calc_magnitude_s : Shp := ⟨109, [.one (.dat .str)], [], [], ⟨.tup [.dat (.int .u64), .dat (.int .i64)], [], [], []⟩, none, []⟩
def calc_magnitude_p : Plan := .seq [] none (.leaf) (.seq [] none (.leaf) (.seq [] (some (⟨[(4, .one (.dat (.int .u64))), (5, .one (.dat .str))], [], [], []⟩, false)) (.seq [] none (.region [(6, ⟨[(17, .one (.dat .bool))], [], [], []⟩, false)]) (.cond (.draw [⟨true, 4, none⟩]) (.leaf))) (.seq [] none (.leaf) (.seq [] none (.leaf) (.seq [] none (.seq [] none (.leaf) (.loop [] ⟨[(6, .one (.dat (.int .u64))), (7, .one (.dat .bool)), (8, .one (.dat (.int .i64)))], [], [], []⟩ (.seq [] none (.leaf) (.seq [] none (.seq [] none (.leaf) (.seq [] none (.leaf) (.seq [] none (.seq [] none (.region [(9, ⟨[(46, .one (.dat .bool))], [], [], []⟩, false)]) (.leaf)) (.leaf)))) (.leaf))))) (.leaf))))))
def calc_magnitude_c (F : Nat) : Ctr E := ⟨calc_magnitude_s, fun (x : List UInt8) => calc_magnitude F x⟩
theorem calc_magnitude_ok (F : Nat) : (calc_magnitude_c F).Ok Tryz.prog := Ctr.ok_of (X := ⟨Tryz.prog, tyT, [strings_HasPrefix_c F, calc_digit_c F]⟩) (F := F) ⟨E_ok, okC (strings_HasPrefix_ok F) (okC (calc_digit_ok F) (okN)), mixed⟩ (pl := calc_magnitude_p) Tryz.func109 (by kernel_rfl) (fun x => by kernel_rfl)
/- jobshell/calc.integer -/
def calc_integer (F : Nat)  (a0 : List UInt8) : Option (Int × Bool) :=
 cond (a0 == [])
 (some (0, true))
 (rq (decide (0 < (a0.length : Int))) (((cond (((a0.getD 0 0).toNat : Int) == 45)
 (some true)
 (rq (decide (0 < (a0.length : Int))) (some (((a0.getD 0 0).toNat : Int) == 43))) : Option Bool).bind fun x2 =>
 cond x2
 (rq ((decide (1 ≤ (a0.length : Int))) && (decide ((a0.length : Int) ≤ (a0.length : Int)))) (some (sl a0 1 (a0.length : Int))))
 (some a0) : Option (List UInt8)).bind fun x1 =>
 (calc_magnitude F x1).bind fun x3 =>
 (cond (x3.2 != 0)
 (some true)
 (cond (x3.1 == 9223372036854775808)
 (some (!(((a0.getD 0 0).toNat : Int) == 45)))
 (some false)) : Option Bool).bind fun x4 =>
 cond x4
 (some (0, false))
 (cond (((a0.getD 0 0).toNat : Int) == 45)
 (some (w64 (IntKind.wrap .u64 (0 - x3.1)), true))
 (some (w64 x3.1, true)))))
def calc_integer_s : Shp := ⟨97, [.one (.dat .str)], [], [], ⟨.tup [.dat (.int .i64), .dat .bool], [], [], []⟩, none, []⟩
def calc_integer_p : Plan := .seq [] none (.leaf) (.seq [] none (.leaf) (.seq [] none (.leaf) (.seq [] (some (⟨[(0, .one (.dat .str))], [], [], []⟩, false)) (.seq [] none (.region [(6, ⟨[(17, .one (.dat .bool))], [], [], []⟩, false)]) (.leaf)) (.seq [] none (.leaf) (.seq [] none (.seq [] none (.region [(10, ⟨[(34, .one (.dat .bool))], [], [], []⟩, false)]) (.leaf)) (.leaf))))))
def calc_integer_c (F : Nat) : Ctr E := ⟨calc_integer_s, fun (x : List UInt8) => calc_integer F x⟩
theorem calc_integer_ok (F : Nat) : (calc_integer_c F).Ok Tryz.prog := Ctr.ok_of (X := ⟨Tryz.prog, tyT, [calc_magnitude_c F]⟩) (F := F) ⟨E_ok, okC (calc_magnitude_ok F) (okN), mixed⟩ (pl := calc_integer_p) Tryz.func97 (by kernel_rfl) (fun x => by kernel_rfl)
/- (jobshell/calc.evaluator).variable -/
def calc_evaluator_variable (F : Nat)  (a0 : List UInt8) (a1 : List ((List UInt8) × (List UInt8))) : Option (Int × Int) :=
 (calc_Eval_2 F a0 a1).bind fun x1 =>
 (calc_integer F x1).bind fun x2 =>
 cond (!x2.2)
 (some (0, 1))
 (some (x2.1, 0))
def calc_evaluator_variable_s : Shp := ⟨82, [.agg [.func 70 [(0, 0)], .func 69 [(0, 0)]], .one (.dat .str)], [.cells 107 [.mref 1], .map .str .str], [], ⟨.tup [.dat (.int .i64), .dat (.int .i64)], [none, none], [], []⟩, none, []⟩
def calc_evaluator_variable_p : Plan := .leaf
def calc_evaluator_variable_c (F : Nat) : Ctr E := ⟨calc_evaluator_variable_s, fun (x : (List UInt8) × (List ((List UInt8) × (List UInt8)))) => calc_evaluator_variable F x.1 x.2⟩
theorem calc_evaluator_variable_ok (F : Nat) : (calc_evaluator_variable_c F).Ok Tryz.prog := Ctr.ok_of (X := ⟨Tryz.prog, tyT, [calc_Eval_2_c F, calc_integer_c F]⟩) (F := F) ⟨E_ok, okC (calc_Eval_2_ok F) (okC (calc_integer_ok F) (okN)), mixed⟩ (pl := calc_evaluator_variable_p) Tryz.func82 (by kernel_rfl) (fun x => by kernel_rfl)
/- jobshell/calc.truth -/
def calc_truth (F : Nat)  (a0 : Bool) : Option Int :=
 cond a0
 (some 1)
 (some 0)
def calc_truth_s : Shp := ⟨99, [.one (.dat .bool)], [], [], ⟨.one (.dat (.int .i64)), [], [], []⟩, none, []⟩
def calc_truth_p : Plan := .leaf
def calc_truth_c (F : Nat) : Ctr E := ⟨calc_truth_s, fun (x : Bool) => calc_truth F x⟩
theorem calc_truth_ok (F : Nat) : (calc_truth_c F).Ok Tryz.prog := Ctr.ok_of (X := ⟨Tryz.prog, tyT, []⟩) (F := F) ⟨E_ok, okN, mixed⟩ (pl := calc_truth_p) Tryz.func99 (by kernel_rfl) (fun x => by kernel_rfl)
/- jobshell/calc.compare -/
def calc_compare (F : Nat)  (a0 : Int) (a1 : Int) (a2 : Int) : Option Bool :=
 cond (a0 == 14)
 (some (decide (a1 < a2)))
 (cond (a0 == 15)
 (some (decide (a2 < a1)))
 (cond (a0 == 16)
 (some (decide (a1 ≤ a2)))
 (cond (a0 == 17)
 (some (decide (a2 ≤ a1)))
 (cond (a0 == 18)
 (some (a1 == a2))
 (some (a1 != a2))))))
def calc_compare_s : Shp := ⟨100, [.one (.dat (.int .i64)), .one (.dat (.int .i64)), .one (.dat (.int .i64))], [], [], ⟨.one (.dat .bool), [], [], []⟩, none, []⟩
def calc_compare_p : Plan := .leaf
def calc_compare_c (F : Nat) : Ctr E := ⟨calc_compare_s, fun (x : Int × Int × Int) => calc_compare F x.1 x.2.1 x.2.2⟩
theorem calc_compare_ok (F : Nat) : (calc_compare_c F).Ok Tryz.prog := Ctr.ok_of (X := ⟨Tryz.prog, tyT, []⟩) (F := F) ⟨E_ok, okN, mixed⟩ (pl := calc_compare_p) Tryz.func100 (by kernel_rfl) (fun x => by kernel_rfl)
/- jobshell/calc.binary -/
def calc_binary (F : Nat)  (a0 : Int) (a1 : Int) (a2 : Int) : Option (Int × Int) :=
 cond (a0 == 7)
 (some (w64 (a1 * a2), 0))
 ((cond (a0 == 8)
 (some (a0 == 8))
 (some (a0 == 9)) : Option Bool).bind fun x1 =>
 cond x1
 (cond (a2 == 0)
 (some (0, 13))
 (cond (a0 == 8)
 (rq (!(a2 == 0)) (some (w64 (Int.tdiv a1 a2), 0)))
 (rq (!(a2 == 0)) (some (Int.tmod a1 a2, 0)))))
 (cond (a0 == 10)
 (some (w64 (a1 + a2), 0))
 (cond (a0 == 11)
 (some (w64 (a1 - a2), 0))
 (cond (a0 == 12)
 (rq (decide (0 ≤ bAnd .i64 a2 63)) (some (bShl .i64 a1 (bAnd .i64 a2 63), 0)))
 (cond (a0 == 13)
 (rq (decide (0 ≤ bAnd .i64 a2 63)) (some (bShr .i64 a1 (bAnd .i64 a2 63), 0)))
 (cond (a0 == 20)
 (some (bAnd .i64 a1 a2, 0))
 (cond (a0 == 21)
 (some (bXor .i64 a1 a2, 0))
 (cond (a0 == 22)
 (some (bOr .i64 a1 a2, 0))
 (cond (a0 == 23)
 ((cond (a1 != 0)
 (some (a2 != 0))
 (some false) : Option Bool).bind fun x2 =>
 (calc_truth F x2).bind fun x3 =>
 some (x3, 0))
 (cond (a0 == 24)
 ((cond (a1 != 0)
 (some true)
 (some (a2 != 0)) : Option Bool).bind fun x4 =>
 (calc_truth F x4).bind fun x5 =>
 some (x5, 0))
 ((calc_compare F a0 a1 a2).bind fun x6 =>
 (calc_truth F x6).bind fun x7 =>
 some (x7, 0))))))))))))
def calc_binary_s : Shp := ⟨85, [.one (.dat (.int .i64)), .one (.dat (.int .i64)), .one (.dat (.int .i64))], [], [], ⟨.tup [.dat (.int .i64), .dat (.int .i64)], [], [], []⟩, none, []⟩
def calc_binary_p : Plan := .seq [] none (.leaf) (.seq [] none (.seq [] none (.leaf) (.seq [] none (.leaf) (.cond (.leaf) (.seq [] (some (⟨[(14, .one (.dat .bool))], [], [], []⟩, false)) (.leaf) (.cond (.leaf) (.seq [] none (.leaf) (.cond (.leaf) (.seq [] none (.leaf) (.cond (.leaf) (.seq [] none (.leaf) (.cond (.leaf) (.seq [] none (.leaf) (.cond (.leaf) (.seq [] none (.leaf) (.cond (.leaf) (.seq [] none (.leaf) (.cond (.leaf) (.seq [] none (.leaf) (.cond (.leaf) (.seq [] none (.leaf) (.cond (.seq [] none (.region [(6, ⟨[(71, .one (.dat .bool))], [], [], []⟩, false)]) (.leaf)) (.seq [] none (.leaf) (.cond (.seq [] none (.region [(6, ⟨[(80, .one (.dat .bool))], [], [], []⟩, false)]) (.leaf)) (.leaf)))))))))))))))))))))))) (.leaf))
def calc_binary_c (F : Nat) : Ctr E := ⟨calc_binary_s, fun (x : Int × Int × Int) => calc_binary F x.1 x.2.1 x.2.2⟩
theorem calc_binary_ok (F : Nat) : (calc_binary_c F).Ok Tryz.prog := Ctr.ok_of (X := ⟨Tryz.prog, tyT, [calc_truth_c F, calc_compare_c F]⟩) (F := F) ⟨E_ok, okC (calc_truth_ok F) (okC (calc_compare_ok F) (okN)), mixed⟩ (pl := calc_binary_p) Tryz.func85 (by kernel_rfl) (fun x => by kernel_rfl)
/- jobshell/calc.unary -/
def calc_unary (F : Nat)  (a0 : Int) (a1 : Int) : Option Int :=
 cond (a0 == 3)
 (some (w64 (0 - a1)))
 (cond (a0 == 5)
 ((calc_truth F (a1 == 0)).bind fun x1 =>
 some x1)
 (cond (a0 == 6)
 (some (bNot .i64 a1))
 (some a1)))
def calc_unary_s : Shp := ⟨84, [.one (.dat (.int .i64)), .one (.dat (.int .i64))], [], [], ⟨.one (.dat (.int .i64)), [], [], []⟩, none, []⟩
def calc_unary_p : Plan := .leaf
def calc_unary_c (F : Nat) : Ctr E := ⟨calc_unary_s, fun (x : Int × Int) => calc_unary F x.1 x.2⟩
theorem calc_unary_ok (F : Nat) : (calc_unary_c F).Ok Tryz.prog := Ctr.ok_of (X := ⟨Tryz.prog, tyT, [calc_truth_c F]⟩) (F := F) ⟨E_ok, okC (calc_truth_ok F) (okN), mixed⟩ (pl := calc_unary_p) Tryz.func84 (by kernel_rfl) (fun x => by kernel_rfl)
/- (jobshell/calc.evaluator).value -/
def calc_evaluator_value_m (F : Nat) (r_calc_evaluator_value : TExpr → (List ((List UInt8) × (List UInt8))) → Option (Int × Int × (List ((List UInt8) × (List UInt8))))) (r_calc_evaluator_assign : TExpr → (List ((List UInt8) × (List UInt8))) → Option (Int × Int × (List ((List UInt8) × (List UInt8))))) (a0 : TExpr) (a1 : List ((List UInt8) × (List UInt8))) : Option (Int × Int × (List ((List UInt8) × (List UInt8)))) :=
 cond (a0.fOp == 1)
 (some (a0.fN, 0, a1))
 (cond (a0.fOp == 2)
 ((calc_evaluator_variable F a0.fName a1).bind fun x1 =>
 some (x1.1, x1.2, a1))
 (cond (a0.fOp == 26)
 ((r_calc_evaluator_assign (TExpr.mk a0.fOp a0.fN a0.fName a0.fKids) a1).bind fun x2 =>
 some (x2.1, x2.2.1, x2.2.2))
 (rq (decide (0 < (a0.fKids.length : Int))) ((r_calc_evaluator_value (a0.fKids.getD 0 dTExpr) a1).bind fun x3 =>
 cond (x3.2.1 != 0)
 (some (0, x3.2.1, x3.2.2))
 (jj (σ := Unit) (R := Int × Int × (List ((List UInt8) × (List UInt8)))) ((cond (a0.fOp == 3)
 (some (a0.fOp == 3))
 (cond (a0.fOp == 4)
 (some (a0.fOp == 4))
 (cond (a0.fOp == 5)
 (some (a0.fOp == 5))
 (some (a0.fOp == 6)))) : Option Bool).bind fun x5 =>
 cond x5
 ((calc_unary F a0.fOp x3.1).bind fun x6 =>
 some (.inr (x6, 0, x3.2.2)))
 (cond (a0.fOp == 25)
 (cond (x3.1 != 0)
 (rq (decide (1 < (a0.fKids.length : Int))) ((r_calc_evaluator_value (a0.fKids.getD 1 dTExpr) x3.2.2).bind fun x7 =>
 some (.inr (x7.1, x7.2.1, x7.2.2))))
 (rq (decide (2 < (a0.fKids.length : Int))) ((r_calc_evaluator_value (a0.fKids.getD 2 dTExpr) x3.2.2).bind fun x8 =>
 some (.inr (x8.1, x8.2.1, x8.2.2)))))
 (cond (a0.fOp == 23)
 (cond (x3.1 == 0)
 (some (.inr (0, 0, x3.2.2)))
 (some (.inl ())))
 (cond (a0.fOp == 24)
 (cond (x3.1 != 0)
 (some (.inr (1, 0, x3.2.2)))
 (some (.inl ())))
 (some (.inl ())))))) fun _ =>
 rq (decide (1 < (a0.fKids.length : Int))) ((r_calc_evaluator_value (a0.fKids.getD 1 dTExpr) x3.2.2).bind fun x9 =>
 cond (x9.2.1 != 0)
 (some (0, x9.2.1, x9.2.2))
 ((calc_binary F a0.fOp x3.1 x9.1).bind fun x10 =>
 some (x10.1, x10.2, x9.2.2))))))))
def calc_evaluator_value_s : Shp := ⟨71, [.agg [.func 70 [(0, 0)], .func 69 [(0, 0)]], .one (.dat (.ext 1))], [.cells 107 [.mref 1], .map .str .str], [], ⟨.tup [.dat (.int .i64), .dat (.int .i64)], [none, some (.map .str .str)], [], []⟩, none, []⟩
def calc_evaluator_value_p : Plan := .seq [] none (.leaf) (.seq [] none (.leaf) (.seq [] none (.draw [⟨true, 5, none⟩, ⟨false, 2, none⟩, ⟨true, 4, none⟩]) (.seq [] none (.leaf) (.seq [] (some (⟨[], [none, none, none, none], [], []⟩, true)) (.seq [] none (.leaf) (.seq [] (some (⟨[(44, .one (.dat .bool))], [none, none, none, none], [], []⟩, false)) (.leaf) (.cond (.leaf) (.seq [] none (.leaf) (.cond (.seq [] none (.seq [] none (.leaf) (.cond (.seq [] none (.draw [⟨true, 5, none⟩, ⟨false, 1, none⟩, ⟨true, 4, none⟩]) (.leaf)) (.leaf))) (.seq [] none (.draw [⟨true, 5, none⟩, ⟨false, 1, none⟩, ⟨true, 4, none⟩]) (.leaf))) (.leaf)))))) (.seq [] none (.draw [⟨true, 5, none⟩, ⟨false, 2, none⟩, ⟨true, 4, none⟩]) (.leaf))))))
/- (jobshell/calc.evaluator).assign -/
def calc_evaluator_assign_m (F : Nat) (r_calc_evaluator_value : TExpr → (List ((List UInt8) × (List UInt8))) → Option (Int × Int × (List ((List UInt8) × (List UInt8))))) (r_calc_evaluator_assign : TExpr → (List ((List UInt8) × (List UInt8))) → Option (Int × Int × (List ((List UInt8) × (List UInt8))))) (a0 : TExpr) (a1 : List ((List UInt8) × (List UInt8))) : Option (Int × Int × (List ((List UInt8) × (List UInt8)))) :=
 rq (decide (0 < (a0.fKids.length : Int))) ((r_calc_evaluator_value (a0.fKids.getD 0 dTExpr) a1).bind fun x1 =>
 cond (x1.2.1 != 0)
 (some (0, x1.2.1, x1.2.2))
 (jj (σ := Int) (R := Int × Int × (List ((List UInt8) × (List UInt8)))) (cond (a0.fN != 0)
 ((calc_evaluator_variable F a0.fName x1.2.2).bind fun x3 =>
 cond (x3.2 != 0)
 (some (.inr (0, x3.2, x1.2.2)))
 ((calc_binary F a0.fN x3.1 x1.1).bind fun x4 =>
 cond (x4.2 != 0)
 (some (.inr (0, x4.2, x1.2.2)))
 (some (.inl x4.1))))
 (some (.inl x1.1))) fun x2 =>
 (itoaF F x2).bind fun x5 =>
 (calc_Eval_1 F a0.fName x5 x1.2.2).bind fun x6 =>
 some (x2, 0, x6)))
def calc_evaluator_assign_s : Shp := ⟨83, [.agg [.func 70 [(0, 0)], .func 69 [(0, 0)]], .one (.dat (.ext 1))], [.cells 107 [.mref 1], .map .str .str], [], ⟨.tup [.dat (.int .i64), .dat (.int .i64)], [none, some (.map .str .str)], [], []⟩, none, []⟩
def calc_evaluator_assign_p : Plan := .seq [] none (.leaf) (.seq [] none (.draw [⟨true, 5, none⟩, ⟨false, 2, none⟩, ⟨true, 4, none⟩]) (.seq [] none (.leaf) (.seq [] (some (⟨[(6, .one (.dat (.int .i64)))], [none, none, none, none], [], []⟩, true)) (.leaf) (.seq [] none (.drawP [2, 3] [] [⟨[(0, true), (1, true), (2, true), (3, true), (4, true), (5, false), (6, false)], none⟩]) (.leaf)))))
def calc_evaluator_value_G (F : Nat) : Nat → (TExpr → (List ((List UInt8) × (List UInt8))) → Option (Int × Int × (List ((List UInt8) × (List UInt8))))) × (TExpr → (List ((List UInt8) × (List UInt8))) → Option (Int × Int × (List ((List UInt8) × (List UInt8)))))
  | 0 => (fun _ _ => none, fun _ _ => none)
  | n + 1 => (calc_evaluator_value_m F (calc_evaluator_value_G F n).1 (calc_evaluator_value_G F n).2, calc_evaluator_assign_m F (calc_evaluator_value_G F n).1 (calc_evaluator_value_G F n).2)
def calc_evaluator_value_n (F n : Nat) : TExpr → (List ((List UInt8) × (List UInt8))) → Option (Int × Int × (List ((List UInt8) × (List UInt8)))) := (calc_evaluator_value_G F n).1
def calc_evaluator_assign_n (F n : Nat) : TExpr → (List ((List UInt8) × (List UInt8))) → Option (Int × Int × (List ((List UInt8) × (List UInt8)))) := (calc_evaluator_value_G F n).2
def calc_evaluator_value (F : Nat) (a0 : TExpr) (a1 : List ((List UInt8) × (List UInt8))) : Option (Int × Int × (List ((List UInt8) × (List UInt8)))) := calc_evaluator_value_n F F a0 a1
def calc_evaluator_assign (F : Nat) (a0 : TExpr) (a1 : List ((List UInt8) × (List UInt8))) : Option (Int × Int × (List ((List UInt8) × (List UInt8)))) := calc_evaluator_assign_n F F a0 a1
def calc_evaluator_value_cn (F n : Nat) : Ctr E := ⟨calc_evaluator_value_s, fun (x : TExpr × (List ((List UInt8) × (List UInt8)))) => calc_evaluator_value_n F n x.1 x.2⟩
def calc_evaluator_value_c (F : Nat) : Ctr E := ⟨calc_evaluator_value_s, fun (x : TExpr × (List ((List UInt8) × (List UInt8)))) => calc_evaluator_value F x.1 x.2⟩
def calc_evaluator_assign_cn (F n : Nat) : Ctr E := ⟨calc_evaluator_assign_s, fun (x : TExpr × (List ((List UInt8) × (List UInt8)))) => calc_evaluator_assign_n F n x.1 x.2⟩
def calc_evaluator_assign_c (F : Nat) : Ctr E := ⟨calc_evaluator_assign_s, fun (x : TExpr × (List ((List UInt8) × (List UInt8)))) => calc_evaluator_assign F x.1 x.2⟩
theorem calc_evaluator_value_st (F n : Nat) (h : (calc_evaluator_value_cn F n).Ok Tryz.prog ∧ (calc_evaluator_assign_cn F n).Ok Tryz.prog) : (calc_evaluator_value_cn F (n + 1)).Ok Tryz.prog := Ctr.ok_of (X := ⟨Tryz.prog, tyT, [calc_evaluator_variable_c F, calc_evaluator_assign_cn F n, calc_evaluator_value_cn F n, calc_unary_c F, calc_binary_c F]⟩) (F := F) ⟨E_ok, okC (calc_evaluator_variable_ok F) (okC h.2 (okC h.1 (okC (calc_unary_ok F) (okC (calc_binary_ok F) (okN))))), mixed⟩ (pl := calc_evaluator_value_p) Tryz.func71 (by kernel_rfl) (fun x => by kernel_rfl)
theorem calc_evaluator_assign_st (F n : Nat) (h : (calc_evaluator_value_cn F n).Ok Tryz.prog ∧ (calc_evaluator_assign_cn F n).Ok Tryz.prog) : (calc_evaluator_assign_cn F (n + 1)).Ok Tryz.prog := Ctr.ok_of (X := ⟨Tryz.prog, tyT, [calc_evaluator_value_cn F n, calc_evaluator_variable_c F, calc_binary_c F, strconvItoa_c F, calc_Eval_1_c F]⟩) (F := F) ⟨E_ok, okC h.1 (okC (calc_evaluator_variable_ok F) (okC (calc_binary_ok F) (okC (strconvItoa_ok F) (okC (calc_Eval_1_ok F) (okN))))), mixed⟩ (pl := calc_evaluator_assign_p) Tryz.func83 (by kernel_rfl) (fun x => by kernel_rfl)
theorem calc_evaluator_value_okn (F : Nat) : ∀ n, (calc_evaluator_value_cn F n).Ok Tryz.prog ∧ (calc_evaluator_assign_cn F n).Ok Tryz.prog
  | 0 => ⟨(fun x y h => nomatch (show none = some y from h)), (fun x y h => nomatch (show none = some y from h))⟩
  | n + 1 => by
    have h := calc_evaluator_value_okn F n
    exact ⟨calc_evaluator_value_st F n h,
      calc_evaluator_assign_st F n h⟩
theorem calc_evaluator_value_ok (F : Nat) : (calc_evaluator_value_c F).Ok Tryz.prog := (calc_evaluator_value_okn F F).1
theorem calc_evaluator_assign_ok (F : Nat) : (calc_evaluator_assign_c F).Ok Tryz.prog := (calc_evaluator_value_okn F F).2
/- maps.Keys[map[string]string,string,string] -/
def maps_Keys (F : Nat)  (a0 : List ((List UInt8) × (List UInt8))) : Option Unit :=
 some ()
def maps_Keys_s : Shp := ⟨73, [.one (.mref 0)], [.map .str .str], [], ⟨.one (.func 88 [(1, 0)]), [none, some (.cells 107 [.mref 0])], [], []⟩, none, []⟩
def maps_Keys_p : Plan := .leaf
def maps_Keys_c (F : Nat) : Ctr E := ⟨maps_Keys_s, fun (x : List ((List UInt8) × (List UInt8))) => maps_Keys F x⟩
theorem maps_Keys_ok (F : Nat) : (maps_Keys_c F).Ok Tryz.prog := Ctr.ok_of (X := ⟨Tryz.prog, tyT, []⟩) (F := F) ⟨E_ok, okN, mixed⟩ (pl := maps_Keys_p) Tryz.func73 (by kernel_rfl) (fun x => by kernel_rfl)
/- jobshell/calc.Eval -/
def calc_Eval (F : Nat)  (a0 : TExpr) (a1 : List TBinding) : Option (Int × (List TBinding) × Int) :=
 (arith_Valid F (TExpr.mk a0.fOp a0.fN a0.fName a0.fKids)).bind fun x1 =>
 cond (x1 != 0)
 (some (0, [], x1))
 (loopF (σ := Int × (List ((List UInt8) × (List UInt8)))) (R := Int × (List TBinding) × Int) (fun rc3 x2 =>
 cond (decide (x2.1 < (a1.length : Int)))
 (rq ((decide (0 ≤ x2.1)) && (decide (x2.1 < (a1.length : Int)))) ((calc_Eval_1 F ((a1.getD (Int.toNat x2.1) dTBinding).fName) ((a1.getD (Int.toNat x2.1) dTBinding).fValue) x2.2).bind fun x4 =>
 rc3 (w64 (x2.1 + 1), x4)))
 ((calc_evaluator_value F (TExpr.mk a0.fOp a0.fN a0.fName a0.fKids) x2.2).bind fun x5 =>
 cond (x5.2.1 != 0)
 (some (0, [], x5.2.1))
 ((maps_Keys F x5.2.2).bind fun _ =>
 (skF F x5.2.2).bind fun x7 =>
 loopF (σ := (List TBinding) × Int) (R := Int × (List TBinding) × Int) (fun rc9 x8 =>
 cond (decide (x8.2 < (x7.length : Int)))
 (rq ((decide (0 ≤ x8.2)) && (decide (x8.2 < (x7.length : Int)))) (rq ((decide (x8.1.length + ([(TBinding.mk (x7.getD (Int.toNat x8.2) []) (mget keq x5.2.2 (x7.getD (Int.toNat x8.2) []) []))] : List TBinding).length ≤ 9223372036854775807)) && (decide ((x8.1.length + ([(TBinding.mk (x7.getD (Int.toNat x8.2) []) (mget keq x5.2.2 (x7.getD (Int.toNat x8.2) []) []))] : List TBinding).length) * 32 ≤ 140737488355328))) (rc9 (x8.1 ++ ([(TBinding.mk (x7.getD (Int.toNat x8.2) []) (mget keq x5.2.2 (x7.getD (Int.toNat x8.2) []) []))] : List TBinding), w64 (x8.2 + 1)))))
 (some (x5.1, x8.1, 0))) F (([] : List TBinding), 0)))) F (0, []))
def calc_Eval_s : Shp := ⟨57, [.one (.dat (.ext 1)), .one (.dat (.lst (.ext 2)))], [], [], ⟨.tup [.dat (.int .i64), .dat (.lst (.ext 2)), .dat (.int .i64)], [], [], []⟩, none, []⟩
def calc_Eval_p : Plan := .seq [] none (.leaf) (.seq [] none (.leaf) (.seq [] none (.leaf) (.seq [] none (.leaf) (.seq [] none (.seq [] none (.leaf) (.loop [] ⟨[(27, .one (.dat (.int .i64)))], [none, some (.map .str .str), none], [], []⟩ (.leaf))) (.seq [] none (.leaf) (.seq [] none (.leaf) (.seq [] none (.leaf) (.seq [] none (.leaf) (.seq [.slot 15 93 (.ext 2)] none (.seq [] none (.leaf) (.loop [] ⟨[(15, .one (.gsl 0 (.ext 2))), (54, .one (.dat (.int .i64)))], [none, none, none, none], [some (93, 2)], []⟩ (.leaf))) (.leaf))))))))))
def calc_Eval_c (F : Nat) : Ctr E := ⟨calc_Eval_s, fun (x : TExpr × (List TBinding)) => calc_Eval F x.1 x.2⟩
theorem calc_Eval_ok (F : Nat) : (calc_Eval_c F).Ok Tryz.prog := Ctr.ok_of (X := ⟨Tryz.prog, tyT, [arith_Valid_c F, calc_Eval_1_c F, calc_evaluator_value_c F, maps_Keys_c F, slicesSorted_c F]⟩) (F := F) ⟨E_ok, okC (arith_Valid_ok F) (okC (calc_Eval_1_ok F) (okC (calc_evaluator_value_ok F) (okC (maps_Keys_ok F) (okC (slicesSorted_ok F) (okN))))), mixed⟩ (pl := calc_Eval_p) Tryz.func57 (by kernel_rfl) (fun x => by kernel_rfl)
/- (*jobshell/format.printer).value -/
def format_printer_value (F : Nat)  (a0 : List UInt8) (a1 : List Int) (a2 : List (List UInt8)) (a3 : Bool) (a4 : Bool) (a5 : List UInt8) : Option (Int × (List Int) × (List (List UInt8)) × Bool × Bool × (List UInt8)) :=
 (cond (!(a0 == []))
 (rq (decide (0 < (a0.length : Int))) (cond (((a0.getD 0 0).toNat : Int) == 39)
 (some true)
 (rq (decide (0 < (a0.length : Int))) (some (((a0.getD 0 0).toNat : Int) == 34)))))
 (some false) : Option Bool).bind fun x1 =>
 cond x1
 (cond ((a0.length : Int) == 1)
 (some (0, a1, a2, a3, a4, a5))
 (rq (decide (1 < (a0.length : Int))) (some (w64 ((a0.getD 1 0).toNat : Int), a1, a2, a3, a4, a5))))
 ((calc_Eval F (TExpr.mk 2 0 ([120] : List UInt8) []) ([(TBinding.mk ([120] : List UInt8) a0)] : List TBinding)).bind fun x2 =>
 cond (x2.2.2 != 0)
 (rq (decide (a0.length + ([58, 32, 110, 111, 116, 32, 97, 32, 110, 117, 109, 98, 101, 114] : List UInt8).length ≤ 9223372036854775807)) ((format_printer_fail F (a0 ++ ([58, 32, 110, 111, 116, 32, 97, 32, 110, 117, 109, 98, 101, 114] : List UInt8)) a1 a2 a3 a4 a5).bind fun x3 =>
 some (0, x3.1, x3.2.1, x3.2.2.1, x3.2.2.2.1, x3.2.2.2.2)))
 (some (x2.1, a1, a2, a3, a4, a5)))
def format_printer_value_s : Shp := ⟨40, [.one (.ptr 0 0), .one (.dat .str)], [.cells 35 [.gsl 0 (.int .u8), .dat (.lst .str), .dat .bool, .dat .bool, .dat .str]], [(5, 1)], ⟨.one (.dat (.int .i64)), [some (.cells 35 [.gsl 0 (.int .u8), .dat (.lst .str), .dat .bool, .dat .bool, .dat .str])], [none], []⟩, none, []⟩
def format_printer_value_p : Plan := .seq [] none (.leaf) (.seq [] none (.seq [] none (.region [(12, ⟨[(19, .one (.dat .bool))], [none], [none], []⟩, false)]) (.leaf)) (.leaf))
def format_printer_value_c (F : Nat) : Ctr E := ⟨format_printer_value_s, fun (x : (List UInt8) × (List Int) × (List (List UInt8)) × Bool × Bool × (List UInt8)) => format_printer_value F x.1 x.2.1 x.2.2.1 x.2.2.2.1 x.2.2.2.2.1 x.2.2.2.2.2⟩
theorem format_printer_value_ok (F : Nat) : (format_printer_value_c F).Ok Tryz.prog := Ctr.ok_of (X := ⟨Tryz.prog, tyT, [calc_Eval_c F, format_printer_fail_c F]⟩) (F := F) ⟨E_ok, okC (calc_Eval_ok F) (okC (format_printer_fail_ok F) (okN)), mixed⟩ (pl := format_printer_value_p) Tryz.func40 (by kernel_rfl) (fun x => by kernel_rfl)
/- (jobshell/format.spec).digits -/
def format_spec_digits (F : Nat)  (a0 : Tspec) (a1 : Int) : Option ((List UInt8) × (List UInt8)) :=
 (cond (a0.fletter == 120)
 (some ([], 16, IntKind.wrap .u64 a1))
 (cond (a0.fletter == 111)
 (some ([], 8, IntKind.wrap .u64 a1))
 ((cond (a0.fletter == 100)
 (some (a0.fletter == 100))
 (some (a0.fletter == 105)) : Option Bool).bind fun x2 =>
 cond x2
 (cond (decide (a1 < 0))
 (some (([45] : List UInt8), 10, IntKind.wrap .u64 (0 - (IntKind.wrap .u64 a1))))
 (cond a0.fplus
 (some (([43] : List UInt8), 10, IntKind.wrap .u64 a1))
 (some ([], 10, IntKind.wrap .u64 a1))))
 (some ([], 10, IntKind.wrap .u64 a1)))) : Option ((List UInt8) × Int × Int)).bind fun x1 =>
 (fuF F x1.2.2 x1.2.1).bind fun x3 =>
 ((cond (a0.fprecision == 0)
 (some (x1.2.2 == 0))
 (some false) : Option Bool).bind fun x5 =>
 cond x5
 (some [])
 (some x3) : Option (List UInt8)).bind fun x4 =>
 (cond (decide ((x4.length : Int) < a0.fprecision))
 ((repF F ([48] : List UInt8) (w64 (a0.fprecision - (x4.length : Int)))).bind fun x7 =>
 rq (decide (x7.length + x4.length ≤ 9223372036854775807)) (some (x7 ++ x4)))
 (some x4) : Option (List UInt8)).bind fun x6 =>
 some (x1.1, x6)
def format_spec_digits_s : Shp := ⟨39, [.one (.dat (.ext 0)), .one (.dat (.int .i64))], [], [], ⟨.tup [.dat .str, .dat .str], [], [], []⟩, none, []⟩
def format_spec_digits_p : Plan := .seq [] none (.leaf) (.seq [] none (.leaf) (.seq [] (some (⟨[(6, .one (.dat .str)), (7, .one (.dat (.int .i64))), (8, .one (.dat (.int .u64)))], [none], [], []⟩, false)) (.seq [] none (.leaf) (.seq [] none (.leaf) (.cond (.leaf) (.seq [] none (.leaf) (.cond (.leaf) (.seq [] (some (⟨[(18, .one (.dat .bool))], [none], [], []⟩, false)) (.leaf) (.leaf))))))) (.seq [] none (.leaf) (.seq [] (some (⟨[(9, .one (.dat .str))], [none], [], []⟩, false)) (.seq [] none (.region [(7, ⟨[(36, .one (.dat .bool))], [none], [], []⟩, false)]) (.leaf)) (.seq [] (some (⟨[(9, .one (.dat .str))], [none], [], []⟩, false)) (.leaf) (.leaf))))))
def format_spec_digits_c (F : Nat) : Ctr E := ⟨format_spec_digits_s, fun (x : Tspec × Int) => format_spec_digits F x.1 x.2⟩
theorem format_spec_digits_ok (F : Nat) : (format_spec_digits_c F).Ok Tryz.prog := Ctr.ok_of (X := ⟨Tryz.prog, tyT, [strconvFormatUint_c F, stringsRepeat_c F]⟩) (F := F) ⟨E_ok, okC (strconvFormatUint_ok F) (okC (stringsRepeat_ok F) (okN)), mixed⟩ (pl := format_spec_digits_p) Tryz.func39 (by kernel_rfl) (fun x => by kernel_rfl)
/- (*jobshell/format.printer).conversion -/
def format_printer_conversion (F : Nat)  (a0 : List UInt8) (a1 : List Int) (a2 : List (List UInt8)) (a3 : Bool) (a4 : Bool) (a5 : List UInt8) : Option ((List UInt8) × Int × (List Int) × (List (List UInt8)) × Bool × Bool × (List UInt8)) :=
 (format_read F a0).bind fun x1 =>
 cond (!x1.2.2)
 ((format_printer_fail F ([105, 110, 118, 97, 108, 105, 100, 32, 99, 111, 110, 118, 101, 114, 115, 105, 111, 110] : List UInt8) a1 a2 a3 a4 a5).bind fun x2 =>
 some ([], 0, x2.1, x2.2.1, x2.2.2.1, true, x2.2.2.2.2))
 (cond (x1.1.fletter == 37)
 ((format_spec_pad F x1.1 [] ([37] : List UInt8)).bind fun x3 =>
 some (x3, x1.2.1, a1, a2, a3, a4, a5))
 (cond (x1.1.fletter == 99)
 ((format_printer_next F a1 a2 a3 a4 a5).bind fun x4 =>
 rq ((decide (0 ≤ cond (decide (1 < (x4.1.length : Int))) 1 (x4.1.length : Int))) && (decide (cond (decide (1 < (x4.1.length : Int))) 1 (x4.1.length : Int) ≤ (x4.1.length : Int)))) ((format_spec_pad F x1.1 [] (sl x4.1 0 (cond (decide (1 < (x4.1.length : Int))) 1 (x4.1.length : Int)))).bind fun x5 =>
 some (x5, x1.2.1, x4.2.1, x4.2.2.1, x4.2.2.2.1, x4.2.2.2.2.1, x4.2.2.2.2.2)))
 (cond (x1.1.fletter == 115)
 ((format_printer_next F a1 a2 a3 a4 a5).bind fun x6 =>
 (format_spec_cut F x1.1 x6.1).bind fun x7 =>
 (format_spec_pad F x1.1 [] x7).bind fun x8 =>
 some (x8, x1.2.1, x6.2.1, x6.2.2.1, x6.2.2.2.1, x6.2.2.2.2.1, x6.2.2.2.2.2))
 (cond (x1.1.fletter == 98)
 ((format_printer_next F a1 a2 a3 a4 a5).bind fun x9 =>
 (format_unescape F x9.1).bind fun x10 =>
 (format_spec_cut F x1.1 x10.1).bind fun x11 =>
 (format_spec_pad F x1.1 [] x11).bind fun x12 =>
 (format_printer_put F x12 x9.2.1 x9.2.2.1 x9.2.2.2.1 x9.2.2.2.2.1 x9.2.2.2.2.2).bind fun x13 =>
 (cond x13.2.2.2.1
 (some true)
 (some x10.2) : Option Bool).bind fun x14 =>
 some ([], x1.2.1, x13.1, x13.2.1, x13.2.2.1, x14, x13.2.2.2.2))
 ((format_printer_next F a1 a2 a3 a4 a5).bind fun x15 =>
 (format_printer_value F x15.1 x15.2.1 x15.2.2.1 x15.2.2.2.1 x15.2.2.2.2.1 x15.2.2.2.2.2).bind fun x16 =>
 (format_spec_digits F x1.1 x16.1).bind fun x17 =>
 (format_spec_pad F x1.1 x17.1 x17.2).bind fun x18 =>
 some (x18, x1.2.1, x16.2.1, x16.2.2.1, x16.2.2.2.1, x16.2.2.2.2.1, x16.2.2.2.2.2))))))
def format_printer_conversion_s : Shp := ⟨21, [.one (.ptr 0 0), .one (.dat .str)], [.cells 35 [.gsl 0 (.int .u8), .dat (.lst .str), .dat .bool, .dat .bool, .dat .str]], [(5, 1)], ⟨.tup [.dat .str, .dat (.int .i64)], [some (.cells 35 [.gsl 0 (.int .u8), .dat (.lst .str), .dat .bool, .dat .bool, .dat .str])], [some (5, 1)], []⟩, none, []⟩
def format_printer_conversion_p : Plan := .seq [] none (.leaf) (.seq [] none (.leaf) (.seq [] none (.leaf) (.seq [] none (.seq [] none (.leaf) (.seq [] none (.leaf) (.cond (.leaf) (.seq [] none (.leaf) (.cond (.seq [] none (.leaf) (.seq [] none (.drawP [1] [] [⟨[(0, true), (1, true), (2, true), (3, true), (4, true), (5, true), (7, true), (6, false), (8, false), (9, false)], none⟩]) (.leaf))) (.seq [] none (.leaf) (.cond (.seq [] none (.drawP [1] [] [⟨[(0, true), (1, true), (2, true), (6, true), (3, false), (4, false), (5, false), (7, false), (8, false)], none⟩]) (.leaf)) (.seq [] none (.leaf) (.cond (.seq [] none (.leaf) (.seq [] none (.drawP [1] [] [⟨[(0, true), (1, true), (2, true), (3, true), (4, false), (5, false), (6, false)], none⟩]) (.seq [] none (.region [(8, ⟨[(70, .one (.ptr 0 0)), (77, .one (.dat .bool))], [none, none], [none], []⟩, false)]) (.leaf)))) (.leaf)))))))))) (.seq [] none (.drawP [1] [] [⟨[(0, true), (1, true), (2, true), (3, false), (4, false), (5, false), (6, false), (7, true), (8, true), (9, false), (10, false)], none⟩]) (.leaf)))))
def format_printer_conversion_c (F : Nat) : Ctr E := ⟨format_printer_conversion_s, fun (x : (List UInt8) × (List Int) × (List (List UInt8)) × Bool × Bool × (List UInt8)) => format_printer_conversion F x.1 x.2.1 x.2.2.1 x.2.2.2.1 x.2.2.2.2.1 x.2.2.2.2.2⟩
theorem format_printer_conversion_ok (F : Nat) : (format_printer_conversion_c F).Ok Tryz.prog := Ctr.ok_of (X := ⟨Tryz.prog, tyT, [format_read_c F, format_printer_fail_c F, format_spec_pad_c F, format_printer_next_c F, format_spec_cut_c F, format_unescape_c F, format_printer_put_c F, format_printer_value_c F, format_spec_digits_c F]⟩) (F := F) ⟨E_ok, okC (format_read_ok F) (okC (format_printer_fail_ok F) (okC (format_spec_pad_ok F) (okC (format_printer_next_ok F) (okC (format_spec_cut_ok F) (okC (format_unescape_ok F) (okC (format_printer_put_ok F) (okC (format_printer_value_ok F) (okC (format_spec_digits_ok F) (okN))))))))), mixed⟩ (pl := format_printer_conversion_p) Tryz.func21 (by kernel_rfl) (fun x => by kernel_rfl)
/- (*jobshell/format.printer).pass -/
def format_printer_pass (F : Nat)  (a0 : List UInt8) (a1 : List Int) (a2 : List (List UInt8)) (a3 : Bool) (a4 : Bool) (a5 : List UInt8) : Option ((List Int) × (List (List UInt8)) × Bool × Bool × (List UInt8)) :=
 loopF (σ := Int × (List Int) × (List (List UInt8)) × Bool × Bool × (List UInt8) × (List UInt8) × Int) (R := (List Int) × (List (List UInt8)) × Bool × Bool × (List UInt8)) (fun rc2 x1 =>
 cond (Nat.blt (Int.toNat x1.2.2.2.2.2.2.2) x1.2.2.2.2.2.2.1.length)
 ((cond (decide ((((Int.toNat x1.2.2.2.2.2.2.2) : Nat) : Int) < x1.1))
 (some true)
 (cond (((dec x1.2.2.2.2.2.2.1 (Int.toNat x1.2.2.2.2.2.2.2)).1 : Int) != 92)
 (some (((dec x1.2.2.2.2.2.2.1 (Int.toNat x1.2.2.2.2.2.2.2)).1 : Int) != 37))
 (some false)) : Option Bool).bind fun x3 =>
 cond x3
 (rc2 (x1.1, x1.2.1, x1.2.2.1, x1.2.2.2.1, x1.2.2.2.2.1, x1.2.2.2.2.2.1, x1.2.2.2.2.2.2.1, ((((Int.toNat x1.2.2.2.2.2.2.2) + (dec x1.2.2.2.2.2.2.1 (Int.toNat x1.2.2.2.2.2.2.2)).2) : Nat) : Int)))
 (jj (σ := (List UInt8) × Int) (R := (List Int) × (List (List UInt8)) × Bool × Bool × (List UInt8)) (cond (((dec x1.2.2.2.2.2.2.1 (Int.toNat x1.2.2.2.2.2.2.2)).1 : Int) == 92)
 (rq ((decide (0 ≤ (((Int.toNat x1.2.2.2.2.2.2.2) : Nat) : Int))) && ((decide ((((Int.toNat x1.2.2.2.2.2.2.2) : Nat) : Int) ≤ (a0.length : Int))) && (decide ((a0.length : Int) ≤ (a0.length : Int))))) ((format_escape F (sl a0 (((Int.toNat x1.2.2.2.2.2.2.2) : Nat) : Int) (a0.length : Int)) 1).bind fun x5 =>
 cond (x5.2 == 0)
 (retK (rc2 (x1.1, x1.2.1, x1.2.2.1, x1.2.2.2.1, x1.2.2.2.2.1, x1.2.2.2.2.2.1, x1.2.2.2.2.2.2.1, ((((Int.toNat x1.2.2.2.2.2.2.2) + (dec x1.2.2.2.2.2.2.1 (Int.toNat x1.2.2.2.2.2.2.2)).2) : Nat) : Int))))
 (some (.inl (x5.1, x5.2)))))
 (some (.inl ([], 0)))) fun x4 =>
 rq ((decide (0 ≤ x1.1)) && ((decide (x1.1 ≤ (((Int.toNat x1.2.2.2.2.2.2.2) : Nat) : Int))) && (decide ((((Int.toNat x1.2.2.2.2.2.2.2) : Nat) : Int) ≤ (a0.length : Int))))) ((format_printer_plain F (sl a0 x1.1 (((Int.toNat x1.2.2.2.2.2.2.2) : Nat) : Int)) x1.2.1 x1.2.2.1 x1.2.2.2.1 x1.2.2.2.2.1 x1.2.2.2.2.2.1).bind fun x6 =>
 cond x6.2.2.2.1
 (some (x6.1, x6.2.1, x6.2.2.1, x6.2.2.2.1, x6.2.2.2.2))
 ((cond (((dec x1.2.2.2.2.2.2.1 (Int.toNat x1.2.2.2.2.2.2.2)).1 : Int) == 37)
 (rq ((decide (0 ≤ (((Int.toNat x1.2.2.2.2.2.2.2) : Nat) : Int))) && ((decide ((((Int.toNat x1.2.2.2.2.2.2.2) : Nat) : Int) ≤ (a0.length : Int))) && (decide ((a0.length : Int) ≤ (a0.length : Int))))) ((format_printer_conversion F (sl a0 (((Int.toNat x1.2.2.2.2.2.2.2) : Nat) : Int) (a0.length : Int)) x6.1 x6.2.1 x6.2.2.1 x6.2.2.2.1 x6.2.2.2.2).bind fun x8 =>
 some (x8.1, x8.2.1, x8.2.2.1, x8.2.2.2.1, x8.2.2.2.2.1, x8.2.2.2.2.2.1, x8.2.2.2.2.2.2)))
 (some (x4.1, x4.2, x6.1, x6.2.1, x6.2.2.1, x6.2.2.2.1, x6.2.2.2.2)) : Option ((List UInt8) × Int × (List Int) × (List (List UInt8)) × Bool × Bool × (List UInt8))).bind fun x7 =>
 (format_printer_put F x7.1 x7.2.2.1 x7.2.2.2.1 x7.2.2.2.2.1 x7.2.2.2.2.2.1 x7.2.2.2.2.2.2).bind fun x9 =>
 cond x9.2.2.2.1
 (some (x9.1, x9.2.1, x9.2.2.1, x9.2.2.2.1, x9.2.2.2.2))
 (rc2 (w64 ((((Int.toNat x1.2.2.2.2.2.2.2) : Nat) : Int) + x7.2.1), x9.1, x9.2.1, x9.2.2.1, x9.2.2.2.1, x9.2.2.2.2, x1.2.2.2.2.2.2.1, ((((Int.toNat x1.2.2.2.2.2.2.2) + (dec x1.2.2.2.2.2.2.1 (Int.toNat x1.2.2.2.2.2.2.2)).2) : Nat) : Int)))))))
 (rq ((decide (0 ≤ x1.1)) && ((decide (x1.1 ≤ (a0.length : Int))) && (decide ((a0.length : Int) ≤ (a0.length : Int))))) ((format_printer_plain F (sl a0 x1.1 (a0.length : Int)) x1.2.1 x1.2.2.1 x1.2.2.2.1 x1.2.2.2.2.1 x1.2.2.2.2.2.1).bind fun x10 =>
 some (x10.1, x10.2.1, x10.2.2.1, x10.2.2.2.1, x10.2.2.2.2)))) F (0, a1, a2, a3, a4, a5, a0, ((0 : Nat) : Int))
def format_printer_pass_s : Shp := ⟨14, [.one (.ptr 0 0), .one (.dat .str)], [.cells 35 [.gsl 0 (.int .u8), .dat (.lst .str), .dat .bool, .dat .bool, .dat .str]], [(5, 1)], ⟨.tup [], [some (.cells 35 [.gsl 0 (.int .u8), .dat (.lst .str), .dat .bool, .dat .bool, .dat .str])], [some (5, 1)], []⟩, none, []⟩
def format_printer_pass_p : Plan := .seq [] none (.leaf) (.seq [] none (.seq [] none (.leaf) (.loop [] ⟨[(4, .one (.dat (.int .i64)))], [some (.cells 35 [.gsl 0 (.int .u8), .dat (.lst .str), .dat .bool, .dat .bool, .dat .str]), some (.iter)], [some (5, 1)], []⟩ (.seq [] none (.leaf) (.seq [] none (.leaf) (.seq [] none (.leaf) (.seq [] none (.seq [] none (.region [(11, ⟨[(25, .one (.dat .bool))], [none, none], [none], []⟩, false)]) (.leaf)) (.seq [] none (.leaf) (.seq [] (some (⟨[(7, .one (.dat .str)), (8, .one (.dat (.int .i64)))], [none, none], [none], []⟩, true)) (.leaf) (.seq [] none (.leaf) (.seq [] none (.leaf) (.seq [] (some (⟨[(7, .one (.dat .str)), (8, .one (.dat (.int .i64)))], [some (.cells 35 [.gsl 0 (.int .u8), .dat (.lst .str), .dat .bool, .dat .bool, .dat .str]), none], [some (5, 1)], []⟩, false)) (.leaf) (.leaf)))))))))))) (.leaf))
def format_printer_pass_c (F : Nat) : Ctr E := ⟨format_printer_pass_s, fun (x : (List UInt8) × (List Int) × (List (List UInt8)) × Bool × Bool × (List UInt8)) => format_printer_pass F x.1 x.2.1 x.2.2.1 x.2.2.2.1 x.2.2.2.2.1 x.2.2.2.2.2⟩
theorem format_printer_pass_ok (F : Nat) : (format_printer_pass_c F).Ok Tryz.prog := Ctr.ok_of (X := ⟨Tryz.prog, tyT, [format_escape_c F, format_printer_plain_c F, format_printer_conversion_c F, format_printer_put_c F]⟩) (F := F) ⟨E_ok, okC (format_escape_ok F) (okC (format_printer_plain_ok F) (okC (format_printer_conversion_ok F) (okC (format_printer_put_ok F) (okN)))), mixed⟩ (pl := format_printer_pass_p) Tryz.func14 (by kernel_rfl) (fun x => by kernel_rfl)
/- jobshell/format.Printf -/
def format_Printf (F : Nat)  (a0 : List (List UInt8)) : Option ((List UInt8) × (List UInt8) × Int) :=
 cond ((a0.length : Int) == 0)
 (some ([], ([109, 105, 115, 115, 105, 110, 103, 32, 102, 111, 114, 109, 97, 116] : List UInt8), 2))
 (rq ((decide (1 ≤ (a0.length : Int))) && (decide ((a0.length : Int) ≤ (a0.length : Int)))) (loopF (σ := (List Int) × (List (List UInt8)) × Bool × Bool × (List UInt8)) (R := (List UInt8) × (List UInt8) × Int) (fun rc2 x1 =>
 rq (decide (0 < (a0.length : Int))) ((format_printer_pass F (a0.getD 0 []) x1.1 x1.2.1 false x1.2.2.2.1 x1.2.2.2.2).bind fun x3 =>
 (cond x3.2.2.2.1
 (some true)
 (some (!x3.2.2.1)) : Option Bool).bind fun x4 =>
 (cond x4
 (some true)
 (some ((x3.2.1.length : Int) == 0)) : Option Bool).bind fun x5 =>
 cond x5
 (cond (!(x3.2.2.2.2 == []))
 (some (toBytes x3.1, x3.2.2.2.2, 1))
 (some (toBytes x3.1, [], 0)))
 (rc2 (x3.1, x3.2.1, x3.2.2.1, x3.2.2.2.1, x3.2.2.2.2)))) F (([] : List Int), sl a0 1 (a0.length : Int), false, false, [])))
def format_Printf_s : Shp := ⟨8, [.one (.dat (.lst .str))], [], [], ⟨.tup [.dat .str, .dat .str, .dat (.int .i64)], [], [], []⟩, none, []⟩
def format_Printf_p : Plan := .seq [] none (.leaf) (.seq [] none (.leaf) (.seq [] none (.leaf) (.seq [.cell 0 0 5 (.int .u8)] none (.loop [] ⟨[], [some (.cells 35 [.gsl 0 (.int .u8), .dat (.lst .str), .dat .bool, .dat .bool, .dat .str])], [some (5, 1)], []⟩ (.seq [] none (.leaf) (.seq [] none (.leaf) (.seq [] none (.region [(7, ⟨[(23, .one (.dat .bool))], [none], [none], []⟩, false), (6, ⟨[(29, .one (.dat .bool))], [none], [none], []⟩, false)]) (.leaf))))) (.seq [] none (.seq [] none (.leaf) (.cond (.seq [] none (.drawP [0] [] [⟨[(0, true), (1, true), (3, true), (4, true), (2, false), (5, false), (6, false), (7, false)], none⟩]) (.leaf)) (.leaf))) (.leaf)))))
def format_Printf_c (F : Nat) : Ctr E := ⟨format_Printf_s, fun (x : List (List UInt8)) => format_Printf F x⟩
theorem format_Printf_ok (F : Nat) : (format_Printf_c F).Ok Tryz.prog := Ctr.ok_of (X := ⟨Tryz.prog, tyT, [format_printer_pass_c F]⟩) (F := F) ⟨E_ok, okC (format_printer_pass_ok F) (okN), mixed⟩ (pl := format_Printf_p) Tryz.func8 (by kernel_rfl) (fun x => by kernel_rfl)
/- jobshell/format.Echo -/
def format_Echo (F : Nat)  (a0 : List (List UInt8)) : Option (List UInt8) :=
 (cond (decide (0 < (a0.length : Int)))
 (rq (decide (0 < (a0.length : Int))) (some ((a0.getD 0 []) == ([45, 110] : List UInt8))))
 (some false) : Option Bool).bind fun x1 =>
 cond x1
 (rq ((decide (1 ≤ (a0.length : Int))) && (decide ((a0.length : Int) ≤ (a0.length : Int)))) ((joinF F (sl a0 1 (a0.length : Int)) ([32] : List UInt8)).bind fun x2 =>
 some x2))
 ((joinF F a0 ([32] : List UInt8)).bind fun x3 =>
 rq (decide (x3.length + ([10] : List UInt8).length ≤ 9223372036854775807)) (some (x3 ++ ([10] : List UInt8))))
def format_Echo_s : Shp := ⟨10, [.one (.dat (.lst .str))], [], [], ⟨.one (.dat .str), [], [], []⟩, none, []⟩
def format_Echo_p : Plan := .seq [] none (.leaf) (.seq [] none (.seq [] none (.region [(9, ⟨[(11, .one (.dat .bool))], [], [], []⟩, false)]) (.leaf)) (.leaf))
def format_Echo_c (F : Nat) : Ctr E := ⟨format_Echo_s, fun (x : List (List UInt8)) => format_Echo F x⟩
theorem format_Echo_ok (F : Nat) : (format_Echo_c F).Ok Tryz.prog := Ctr.ok_of (X := ⟨Tryz.prog, tyT, [stringsJoin_c F]⟩) (F := F) ⟨E_ok, okC (stringsJoin_ok F) (okN), mixed⟩ (pl := format_Echo_p) Tryz.func10 (by kernel_rfl) (fun x => by kernel_rfl)
/- jobshell/jobshelllaw30.awake -/
def law30_awake (F : Nat)   : Option Bool :=
 (format_Printf F ([([37, 115, 45, 37, 48, 53, 100, 124] : List UInt8), ([97] : List UInt8), ([45, 52, 50] : List UInt8), ([98] : List UInt8)] : List (List UInt8))).bind fun x1 =>
 (format_Printf F ([([37, 100] : List UInt8), ([53, 120] : List UInt8)] : List (List UInt8))).bind fun x2 =>
 (format_Printf F []).bind fun x3 =>
 (cond (x1.1 == ([97, 45, 45, 48, 48, 52, 50, 124, 98, 45, 48, 48, 48, 48, 48, 124] : List UInt8))
 (some (x1.2.1 == []))
 (some false) : Option Bool).bind fun x4 =>
 (cond x4
 (some (x1.2.2 == 0))
 (some false) : Option Bool).bind fun x5 =>
 (cond x5
 (some (x2.1 == ([48] : List UInt8)))
 (some false) : Option Bool).bind fun x6 =>
 (cond x6
 (some (x2.2.1 == ([53, 120, 58, 32, 110, 111, 116, 32, 97, 32, 110, 117, 109, 98, 101, 114] : List UInt8)))
 (some false) : Option Bool).bind fun x7 =>
 (cond x7
 (some (x2.2.2 == 1))
 (some false) : Option Bool).bind fun x8 =>
 (cond x8
 (some (x3.1 == []))
 (some false) : Option Bool).bind fun x9 =>
 (cond x9
 (some (x3.2.2 == 2))
 (some false) : Option Bool).bind fun x10 =>
 (cond x10
 ((format_Echo F ([([45, 110] : List UInt8), ([97] : List UInt8)] : List (List UInt8))).bind fun x12 =>
 some (x12 == ([97] : List UInt8)))
 (some false) : Option Bool).bind fun x11 =>
 (cond x11
 ((format_Echo F []).bind fun x14 =>
 some (x14 == ([10] : List UInt8)))
 (some false) : Option Bool).bind fun x13 =>
 some x13
def law30_awake_s : Shp := ⟨7, [], [], [], ⟨.one (.dat .bool), [], [], []⟩, none, []⟩
def law30_awake_p : Plan := .seq [] none (.leaf) (.seq [] none (.leaf) (.seq [] none (.leaf) (.seq [] none (.leaf) (.seq [] none (.region [(6, ⟨[(32, .one (.dat .bool))], [], [none, none], []⟩, false), (4, ⟨[(36, .one (.dat .bool))], [], [none, none], []⟩, false), (4, ⟨[(40, .one (.dat .bool))], [], [none, none], []⟩, false), (4, ⟨[(44, .one (.dat .bool))], [], [none, none], []⟩, false), (4, ⟨[(48, .one (.dat .bool))], [], [none, none], []⟩, false), (4, ⟨[(52, .one (.dat .bool))], [], [none, none], []⟩, false), (4, ⟨[(56, .one (.dat .bool))], [], [none, none], []⟩, false), (5, ⟨[(61, .one (.dat .bool))], [], [none, none], []⟩, false), (4, ⟨[(65, .one (.dat .bool))], [], [none, none], []⟩, false)]) (.leaf)))))
def law30_awake_c (F : Nat) : Ctr E := ⟨law30_awake_s, fun (x : Unit) => law30_awake F ⟩
theorem law30_awake_ok (F : Nat) : (law30_awake_c F).Ok Tryz.prog := Ctr.ok_of (X := ⟨Tryz.prog, tyT, [format_Printf_c F, format_Echo_c F]⟩) (F := F) ⟨E_ok, okC (format_Printf_ok F) (okC (format_Echo_ok F) (okN)), mixed⟩ (pl := law30_awake_p) Tryz.func7 (by kernel_rfl) (fun x => by kernel_rfl)
/- jobshell/jobshellref30.simple -/
def ref30_simple (F : Nat)  (a0 : Int) : Option (List UInt8) :=
 loopF (σ := Int) (R := List UInt8) (fun rc2 x1 =>
 cond (decide (x1 < (([92, 97, 98, 102, 110, 114, 116, 118] : List UInt8).length : Int)))
 (rq ((decide (0 ≤ x1)) && (decide (x1 < (([92, 97, 98, 102, 110, 114, 116, 118] : List UInt8).length : Int)))) (cond (((([92, 97, 98, 102, 110, 114, 116, 118] : List UInt8).getD (Int.toNat x1) 0).toNat : Int) == a0)
 (rq ((decide (0 ≤ x1)) && ((decide (x1 ≤ w64 (x1 + 1))) && (decide (w64 (x1 + 1) ≤ (([92, 7, 8, 12, 10, 13, 9, 11] : List UInt8).length : Int))))) (some (sl ([92, 7, 8, 12, 10, 13, 9, 11] : List UInt8) x1 (w64 (x1 + 1)))))
 (rc2 (w64 (x1 + 1)))))
 (some [])) F 0
def ref30_simple_s : Shp := ⟨41, [.one (.dat (.int .u8))], [], [], ⟨.one (.dat .str), [], [], []⟩, none, []⟩
def ref30_simple_p : Plan := .seq [] none (.leaf) (.seq [] none (.leaf) (.seq [] none (.leaf) (.seq [] none (.seq [] none (.leaf) (.loop [] ⟨[(5, .one (.dat (.int .i64)))], [], [], []⟩ (.leaf))) (.leaf))))
def ref30_simple_c (F : Nat) : Ctr E := ⟨ref30_simple_s, fun (x : Int) => ref30_simple F x⟩
theorem ref30_simple_ok (F : Nat) : (ref30_simple_c F).Ok Tryz.prog := Ctr.ok_of (X := ⟨Tryz.prog, tyT, []⟩) (F := F) ⟨E_ok, okN, mixed⟩ (pl := ref30_simple_p) Tryz.func41 (by kernel_rfl) (fun x => by kernel_rfl)
/- jobshell/jobshellref30.octal -/
def ref30_octal (F : Nat)  (a0 : List UInt8) (a1 : Int) (a2 : Int) : Option ((List UInt8) × Int) :=
 loopF (σ := Int × Int) (R := (List UInt8) × Int) (fun rc2 x1 =>
 (cond (decide (x1.2 < (a0.length : Int)))
 (some (decide (x1.2 < w64 (a1 + a2))))
 (some false) : Option Bool).bind fun x3 =>
 (cond x3
 (rq ((decide (0 ≤ x1.2)) && (decide (x1.2 < (a0.length : Int)))) (some (decide (48 ≤ ((a0.getD (Int.toNat x1.2) 0).toNat : Int)))))
 (some false) : Option Bool).bind fun x4 =>
 (cond x4
 (rq ((decide (0 ≤ x1.2)) && (decide (x1.2 < (a0.length : Int)))) (some (decide (((a0.getD (Int.toNat x1.2) 0).toNat : Int) ≤ 55))))
 (some false) : Option Bool).bind fun x5 =>
 cond x5
 (rq ((decide (0 ≤ x1.2)) && (decide (x1.2 < (a0.length : Int)))) (rc2 (w64 ((w64 (8 * x1.1)) + (w64 (IntKind.wrap .u8 (((a0.getD (Int.toNat x1.2) 0).toNat : Int) - 48)))), w64 (x1.2 + 1))))
 (some (toBytes ([IntKind.wrap .u8 (Int.tmod x1.1 256)] : List Int), x1.2))) F (0, a1)
def ref30_octal_s : Shp := ⟨42, [.one (.dat .str), .one (.dat (.int .i64)), .one (.dat (.int .i64))], [], [], ⟨.tup [.dat .str, .dat (.int .i64)], [], [], []⟩, none, []⟩
def ref30_octal_p : Plan := .seq [] none (.leaf) (.seq [] none (.leaf) (.seq [] none (.leaf) (.seq [] none (.loop [] ⟨[(8, .one (.dat (.int .i64))), (9, .one (.dat (.int .i64)))], [], [], []⟩ (.seq [] none (.seq [] none (.region [(11, ⟨[(21, .one (.dat .bool))], [], [], []⟩, false), (6, ⟨[(27, .one (.dat .bool))], [], [], []⟩, false), (6, ⟨[(33, .one (.dat .bool))], [], [], []⟩, false)]) (.leaf)) (.leaf))) (.leaf))))
def ref30_octal_c (F : Nat) : Ctr E := ⟨ref30_octal_s, fun (x : (List UInt8) × Int × Int) => ref30_octal F x.1 x.2.1 x.2.2⟩
theorem ref30_octal_ok (F : Nat) : (ref30_octal_c F).Ok Tryz.prog := Ctr.ok_of (X := ⟨Tryz.prog, tyT, []⟩) (F := F) ⟨E_ok, okN, mixed⟩ (pl := ref30_octal_p) Tryz.func42 (by kernel_rfl) (fun x => by kernel_rfl)
/- jobshell/jobshellref30.escape -/
def ref30_escape (F : Nat)  (a0 : List UInt8) (a1 : Int) : Option ((List UInt8) × Int) :=
 cond (decide ((a0.length : Int) ≤ w64 (a1 + 1)))
 (some (([92] : List UInt8), w64 (a1 + 1)))
 (rq ((decide (0 ≤ w64 (a1 + 1))) && (decide (w64 (a1 + 1) < (a0.length : Int)))) ((ref30_simple F ((a0.getD (Int.toNat (w64 (a1 + 1))) 0).toNat : Int)).bind fun x1 =>
 cond (!(x1 == []))
 (some (x1, w64 (a1 + 2)))
 ((rq ((decide (0 ≤ w64 (a1 + 1))) && (decide (w64 (a1 + 1) < (a0.length : Int)))) (cond (decide (48 ≤ ((a0.getD (Int.toNat (w64 (a1 + 1))) 0).toNat : Int)))
 (rq ((decide (0 ≤ w64 (a1 + 1))) && (decide (w64 (a1 + 1) < (a0.length : Int)))) (some (decide (((a0.getD (Int.toNat (w64 (a1 + 1))) 0).toNat : Int) ≤ 55))))
 (some false)) : Option Bool).bind fun x2 =>
 cond x2
 ((ref30_octal F a0 (w64 (a1 + 1)) 3).bind fun x3 =>
 some (x3.1, x3.2))
 (some (([92] : List UInt8), w64 (a1 + 1))))))
def ref30_escape_s : Shp := ⟨23, [.one (.dat .str), .one (.dat (.int .i64))], [], [], ⟨.tup [.dat .str, .dat (.int .i64)], [], [], []⟩, none, []⟩
def ref30_escape_p : Plan := .seq [] none (.leaf) (.seq [] none (.leaf) (.seq [] none (.leaf) (.seq [] none (.seq [] none (.region [(12, ⟨[(35, .one (.dat .bool))], [], [], []⟩, false)]) (.leaf)) (.leaf))))
def ref30_escape_c (F : Nat) : Ctr E := ⟨ref30_escape_s, fun (x : (List UInt8) × Int) => ref30_escape F x.1 x.2⟩
theorem ref30_escape_ok (F : Nat) : (ref30_escape_c F).Ok Tryz.prog := Ctr.ok_of (X := ⟨Tryz.prog, tyT, [ref30_simple_c F, ref30_octal_c F]⟩) (F := F) ⟨E_ok, okC (ref30_simple_ok F) (okC (ref30_octal_ok F) (okN)), mixed⟩ (pl := ref30_escape_p) Tryz.func23 (by kernel_rfl) (fun x => by kernel_rfl)
/- (*jobshell/jobshellref30.printer).fail -/
def ref30_printer_fail (F : Nat)  (a0 : List UInt8) (a1 : List UInt8) (a2 : List UInt8) (a3 : Bool) (a4 : List (List UInt8)) (a5 : Int) : Option ((List UInt8) × (List UInt8) × Bool × (List (List UInt8)) × Int) :=
 cond (a2 == [])
 (some (a1, a0, a3, a4, a5))
 (some (a1, a2, a3, a4, a5))
def ref30_printer_fail_s : Shp := ⟨26, [.one (.ptr 0 0), .one (.dat .str)], [.cells 39 [.dat .str, .dat .str, .dat .bool, .dat (.lst .str), .dat (.int .i64)]], [], ⟨.tup [], [some (.cells 39 [.dat .str, .dat .str, .dat .bool, .dat (.lst .str), .dat (.int .i64)])], [], []⟩, none, []⟩
def ref30_printer_fail_p : Plan := .leaf
def ref30_printer_fail_c (F : Nat) : Ctr E := ⟨ref30_printer_fail_s, fun (x : (List UInt8) × (List UInt8) × (List UInt8) × Bool × (List (List UInt8)) × Int) => ref30_printer_fail F x.1 x.2.1 x.2.2.1 x.2.2.2.1 x.2.2.2.2.1 x.2.2.2.2.2⟩
theorem ref30_printer_fail_ok (F : Nat) : (ref30_printer_fail_c F).Ok Tryz.prog := Ctr.ok_of (X := ⟨Tryz.prog, tyT, []⟩) (F := F) ⟨E_ok, okN, mixed⟩ (pl := ref30_printer_fail_p) Tryz.func26 (by kernel_rfl) (fun x => by kernel_rfl)
/- (*jobshell/jobshellref30.printer).put -/
def ref30_printer_put (F : Nat)  (a0 : List UInt8) (a1 : List UInt8) (a2 : List UInt8) (a3 : Bool) (a4 : List (List UInt8)) (a5 : Int) : Option ((List UInt8) × (List UInt8) × Bool × (List (List UInt8)) × Int) :=
 cond a3
 (some (a1, a2, a3, a4, a5))
 (cond (decide (65536 < w64 ((a1.length : Int) + (a0.length : Int))))
 ((ref30_printer_fail F ([111, 117, 116, 112, 117, 116, 32, 116, 111, 111, 32, 108, 111, 110, 103] : List UInt8) a1 a2 a3 a4 a5).bind fun x1 =>
 some (x1.1, x1.2.1, true, x1.2.2.2.1, x1.2.2.2.2))
 (rq (decide (a1.length + a0.length ≤ 9223372036854775807)) (some (a1 ++ a0, a2, a3, a4, a5))))
def ref30_printer_put_s : Shp := ⟨24, [.one (.ptr 0 0), .one (.dat .str)], [.cells 39 [.dat .str, .dat .str, .dat .bool, .dat (.lst .str), .dat (.int .i64)]], [], ⟨.tup [], [some (.cells 39 [.dat .str, .dat .str, .dat .bool, .dat (.lst .str), .dat (.int .i64)])], [], []⟩, none, []⟩
def ref30_printer_put_p : Plan := .leaf
def ref30_printer_put_c (F : Nat) : Ctr E := ⟨ref30_printer_put_s, fun (x : (List UInt8) × (List UInt8) × (List UInt8) × Bool × (List (List UInt8)) × Int) => ref30_printer_put F x.1 x.2.1 x.2.2.1 x.2.2.2.1 x.2.2.2.2.1 x.2.2.2.2.2⟩
theorem ref30_printer_put_ok (F : Nat) : (ref30_printer_put_c F).Ok Tryz.prog := Ctr.ok_of (X := ⟨Tryz.prog, tyT, [ref30_printer_fail_c F]⟩) (F := F) ⟨E_ok, okC (ref30_printer_fail_ok F) (okN), mixed⟩ (pl := ref30_printer_put_p) Tryz.func24 (by kernel_rfl) (fun x => by kernel_rfl)
/- jobshell/jobshellref30.digits -/
def ref30_digits (F : Nat)  (a0 : List UInt8) (a1 : Int) : Option (Int × Int × Bool) :=
 loopF (σ := Int × Int × Bool) (R := Int × Int × Bool) (fun rc2 x1 =>
 (cond (decide (x1.1 < (a0.length : Int)))
 (rq ((decide (0 ≤ x1.1)) && (decide (x1.1 < (a0.length : Int)))) (some (decide (48 ≤ ((a0.getD (Int.toNat x1.1) 0).toNat : Int)))))
 (some false) : Option Bool).bind fun x3 =>
 (cond x3
 (rq ((decide (0 ≤ x1.1)) && (decide (x1.1 < (a0.length : Int)))) (some (decide (((a0.getD (Int.toNat x1.1) 0).toNat : Int) ≤ 57))))
 (some false) : Option Bool).bind fun x4 =>
 cond x4
 (rq ((decide (0 ≤ x1.1)) && (decide (x1.1 < (a0.length : Int)))) (cond (decide (4096 < w64 ((w64 (10 * x1.2.1)) + (w64 (IntKind.wrap .u8 (((a0.getD (Int.toNat x1.1) 0).toNat : Int) - 48))))))
 (rc2 (w64 (x1.1 + 1), 4096, false))
 (rc2 (w64 (x1.1 + 1), w64 ((w64 (10 * x1.2.1)) + (w64 (IntKind.wrap .u8 (((a0.getD (Int.toNat x1.1) 0).toNat : Int) - 48)))), x1.2.2))))
 (some (x1.2.1, x1.1, x1.2.2))) F (a1, 0, true)
def ref30_digits_s : Shp := ⟨43, [.one (.dat .str), .one (.dat (.int .i64))], [], [], ⟨.tup [.dat (.int .i64), .dat (.int .i64), .dat .bool], [], [], []⟩, none, []⟩
def ref30_digits_p : Plan := .seq [] none (.leaf) (.seq [] none (.leaf) (.seq [] none (.leaf) (.seq [] none (.loop [] ⟨[(1, .one (.dat (.int .i64))), (7, .one (.dat (.int .i64))), (8, .one (.dat .bool))], [], [], []⟩ (.seq [] none (.seq [] none (.region [(10, ⟨[(18, .one (.dat .bool))], [], [], []⟩, false), (6, ⟨[(24, .one (.dat .bool))], [], [], []⟩, false)]) (.leaf)) (.leaf))) (.leaf))))
def ref30_digits_c (F : Nat) : Ctr E := ⟨ref30_digits_s, fun (x : (List UInt8) × Int) => ref30_digits F x.1 x.2⟩
theorem ref30_digits_ok (F : Nat) : (ref30_digits_c F).Ok Tryz.prog := Ctr.ok_of (X := ⟨Tryz.prog, tyT, []⟩) (F := F) ⟨E_ok, okN, mixed⟩ (pl := ref30_digits_p) Tryz.func43 (by kernel_rfl) (fun x => by kernel_rfl)
/- jobshell/jobshellref30.read -/
def ref30_read (F : Nat)  (a0 : List UInt8) (a1 : Int) : Option (Tconversion × Int × Bool) :=
 loopF (σ := Int × Bool × Bool × Bool × Int × Int × Int) (R := Tconversion × Int × Bool) (fun rc2 x1 =>
 (cond (decide (x1.1 < (a0.length : Int)))
 (rq ((decide (0 ≤ x1.1)) && (decide (x1.1 < (a0.length : Int)))) (cond (((a0.getD (Int.toNat x1.1) 0).toNat : Int) == 45)
 (some true)
 (rq ((decide (0 ≤ x1.1)) && (decide (x1.1 < (a0.length : Int)))) (cond (((a0.getD (Int.toNat x1.1) 0).toNat : Int) == 48)
 (some true)
 (rq ((decide (0 ≤ x1.1)) && (decide (x1.1 < (a0.length : Int)))) (some (((a0.getD (Int.toNat x1.1) 0).toNat : Int) == 43)))))))
 (some false) : Option Bool).bind fun x3 =>
 cond x3
 ((cond x1.2.1
 (some true)
 (rq ((decide (0 ≤ x1.1)) && (decide (x1.1 < (a0.length : Int)))) (some (((a0.getD (Int.toNat x1.1) 0).toNat : Int) == 45))) : Option Bool).bind fun x4 =>
 (cond x1.2.2.1
 (some true)
 (rq ((decide (0 ≤ x1.1)) && (decide (x1.1 < (a0.length : Int)))) (some (((a0.getD (Int.toNat x1.1) 0).toNat : Int) == 48))) : Option Bool).bind fun x5 =>
 (cond x1.2.2.2.1
 (some true)
 (rq ((decide (0 ≤ x1.1)) && (decide (x1.1 < (a0.length : Int)))) (some (((a0.getD (Int.toNat x1.1) 0).toNat : Int) == 43))) : Option Bool).bind fun x6 =>
 rc2 (w64 (x1.1 + 1), x4, x5, x6, x1.2.2.2.2.1, x1.2.2.2.2.2.1, x1.2.2.2.2.2.2))
 ((ref30_digits F a0 x1.1).bind fun x7 =>
 ((cond (decide (x7.2.1 < (a0.length : Int)))
 (rq ((decide (0 ≤ x7.2.1)) && (decide (x7.2.1 < (a0.length : Int)))) (some (((a0.getD (Int.toNat x7.2.1) 0).toNat : Int) == 46)))
 (some false) : Option Bool).bind fun x9 =>
 cond x9
 ((ref30_digits F a0 (w64 (x7.2.1 + 1))).bind fun x10 =>
 (cond x7.2.2
 (some x10.2.2)
 (some false) : Option Bool).bind fun x11 =>
 some (x10.2.1, x11, x1.2.1, x1.2.2.1, x1.2.2.2.1, x7.1, x10.1, x1.2.2.2.2.2.2))
 (some (x7.2.1, x7.2.2, x1.2.1, x1.2.2.1, x1.2.2.2.1, x7.1, x1.2.2.2.2.2.1, x1.2.2.2.2.2.2)) : Option (Int × Bool × Bool × Bool × Bool × Int × Int × Int)).bind fun x8 =>
 (cond (!x8.2.1)
 (some true)
 (some (decide ((a0.length : Int) ≤ x8.1))) : Option Bool).bind fun x12 =>
 cond x12
 (some ((Tconversion.mk x8.2.2.1 x8.2.2.2.1 x8.2.2.2.2.1 x8.2.2.2.2.2.1 x8.2.2.2.2.2.2.1 x8.2.2.2.2.2.2.2), x8.1, false))
 (rq ((decide (0 ≤ x8.1)) && (decide (x8.1 < (a0.length : Int)))) (loopF (σ := Int) (R := Tconversion × Int × Bool) (fun rc14 x13 =>
 cond (decide (x13 < (([100, 105, 117, 120, 111, 99, 115, 98, 37] : List UInt8).length : Int)))
 (rq ((decide (0 ≤ x13)) && (decide (x13 < (([100, 105, 117, 120, 111, 99, 115, 98, 37] : List UInt8).length : Int)))) (cond (((([100, 105, 117, 120, 111, 99, 115, 98, 37] : List UInt8).getD (Int.toNat x13) 0).toNat : Int) == ((a0.getD (Int.toNat x8.1) 0).toNat : Int))
 (some ((Tconversion.mk x8.2.2.1 x8.2.2.2.1 x8.2.2.2.2.1 x8.2.2.2.2.2.1 x8.2.2.2.2.2.2.1 ((a0.getD (Int.toNat x8.1) 0).toNat : Int)), w64 (x8.1 + 1), true))
 (rc14 (w64 (x13 + 1)))))
 (some ((Tconversion.mk x8.2.2.1 x8.2.2.2.1 x8.2.2.2.2.1 x8.2.2.2.2.2.1 x8.2.2.2.2.2.2.1 ((a0.getD (Int.toNat x8.1) 0).toNat : Int)), x8.1, false))) F 0)))) F (w64 (a1 + 1), (Tconversion.mk false false false 0 (-1) 0).fminus, (Tconversion.mk false false false 0 (-1) 0).fzero, (Tconversion.mk false false false 0 (-1) 0).fplus, (Tconversion.mk false false false 0 (-1) 0).fwidth, (Tconversion.mk false false false 0 (-1) 0).fprecision, (Tconversion.mk false false false 0 (-1) 0).fletter)
def ref30_read_s : Shp := ⟨25, [.one (.dat .str), .one (.dat (.int .i64))], [], [], ⟨.tup [.dat (.ext 5), .dat (.int .i64), .dat .bool], [], [], []⟩, none, []⟩
def ref30_read_p : Plan := .seq [] none (.leaf) (.seq [] none (.leaf) (.seq [] none (.leaf) (.seq [] none (.loop [] ⟨[(1, .one (.dat (.int .i64)))], [none, some (.cells 50 [.dat .bool, .dat .bool, .dat .bool, .dat (.int .i64), .dat (.int .i64), .dat (.int .u8)])], [], []⟩ (.seq [] none (.seq [] none (.region [(22, ⟨[(39, .one (.dat .bool))], [none, none], [], []⟩, false)]) (.leaf)) (.seq [] none (.region [(8, ⟨[(47, .one (.dat .bool))], [none, none], [], []⟩, false)]) (.seq [] none (.region [(8, ⟨[(56, .one (.dat .bool))], [none, none], [], []⟩, false)]) (.seq [] none (.region [(8, ⟨[(65, .one (.dat .bool))], [none, none], [], []⟩, false)]) (.leaf)))))) (.seq [] none (.leaf) (.seq [] none (.leaf) (.seq [] (some (⟨[(1, .one (.dat (.int .i64))), (9, .one (.dat .bool))], [none, some (.cells 50 [.dat .bool, .dat .bool, .dat .bool, .dat (.int .i64), .dat (.int .i64), .dat (.int .u8)])], [], []⟩, false)) (.seq [] none (.region [(10, ⟨[(87, .one (.dat .bool))], [none, none], [], []⟩, false)]) (.cond (.seq [] none (.leaf) (.seq [] none (.leaf) (.seq [] none (.region [(4, ⟨[(101, .one (.dat .bool))], [none, none], [], []⟩, false)]) (.leaf)))) (.leaf))) (.seq [] none (.seq [] none (.region [(8, ⟨[(110, .one (.dat .bool))], [none, none], [], []⟩, false)]) (.leaf)) (.seq [] none (.leaf) (.seq [] none (.leaf) (.seq [] none (.seq [] none (.leaf) (.loop [] ⟨[(14, .one (.dat (.int .i64)))], [none, none], [], []⟩ (.seq [] none (.leaf) (.seq [] none (.seq [] none (.draw [⟨true, 6, none⟩]) (.leaf)) (.leaf))))) (.leaf)))))))))))
def ref30_read_c (F : Nat) : Ctr E := ⟨ref30_read_s, fun (x : (List UInt8) × Int) => ref30_read F x.1 x.2⟩
theorem ref30_read_ok (F : Nat) : (ref30_read_c F).Ok Tryz.prog := Ctr.ok_of (X := ⟨Tryz.prog, tyT, [ref30_digits_c F]⟩) (F := F) ⟨E_ok, okC (ref30_digits_ok F) (okN), mixed⟩ (pl := ref30_read_p) Tryz.func25 (by kernel_rfl) (fun x => by kernel_rfl)
/- jobshell/jobshellref30.times -/
def ref30_times (F : Nat)  (a0 : List UInt8) (a1 : Int) : Option (List UInt8) :=
 loopF (σ := (List UInt8) × Int) (R := List UInt8) (fun rc2 x1 =>
 cond (decide (x1.2 < a1))
 (rq (decide (x1.1.length + a0.length ≤ 9223372036854775807)) (rc2 (x1.1 ++ a0, w64 (x1.2 + 1))))
 (some x1.1)) F ([], 0)
def ref30_times_s : Shp := ⟨49, [.one (.dat .str), .one (.dat (.int .i64))], [], [], ⟨.one (.dat .str), [], [], []⟩, none, []⟩
def ref30_times_p : Plan := .seq [] none (.leaf) (.seq [] none (.leaf) (.seq [] none (.seq [] none (.leaf) (.loop [] ⟨[(5, .one (.dat .str)), (6, .one (.dat (.int .i64)))], [], [], []⟩ (.leaf))) (.leaf)))
def ref30_times_c (F : Nat) : Ctr E := ⟨ref30_times_s, fun (x : (List UInt8) × Int) => ref30_times F x.1 x.2⟩
theorem ref30_times_ok (F : Nat) : (ref30_times_c F).Ok Tryz.prog := Ctr.ok_of (X := ⟨Tryz.prog, tyT, []⟩) (F := F) ⟨E_ok, okN, mixed⟩ (pl := ref30_times_p) Tryz.func49 (by kernel_rfl) (fun x => by kernel_rfl)
/- jobshell/jobshellref30.fill -/
def ref30_fill (F : Nat)  (a0 : Tconversion) (a1 : List UInt8) : Option (List UInt8) :=
 cond (decide (a0.fwidth ≤ (a1.length : Int)))
 (some a1)
 (cond a0.fminus
 ((ref30_times F ([32] : List UInt8) (w64 (a0.fwidth - (a1.length : Int)))).bind fun x1 =>
 rq (decide (a1.length + x1.length ≤ 9223372036854775807)) (some (a1 ++ x1)))
 ((ref30_times F ([32] : List UInt8) (w64 (a0.fwidth - (a1.length : Int)))).bind fun x2 =>
 rq (decide (x2.length + a1.length ≤ 9223372036854775807)) (some (x2 ++ a1))))
def ref30_fill_s : Shp := ⟨44, [.one (.dat (.ext 5)), .one (.dat .str)], [], [], ⟨.one (.dat .str), [], [], []⟩, none, []⟩
def ref30_fill_p : Plan := .leaf
def ref30_fill_c (F : Nat) : Ctr E := ⟨ref30_fill_s, fun (x : Tconversion × (List UInt8)) => ref30_fill F x.1 x.2⟩
theorem ref30_fill_ok (F : Nat) : (ref30_fill_c F).Ok Tryz.prog := Ctr.ok_of (X := ⟨Tryz.prog, tyT, [ref30_times_c F]⟩) (F := F) ⟨E_ok, okC (ref30_times_ok F) (okN), mixed⟩ (pl := ref30_fill_p) Tryz.func44 (by kernel_rfl) (fun x => by kernel_rfl)
/- (*jobshell/jobshellref30.printer).operand -/
def ref30_printer_operand (F : Nat)  (a0 : List UInt8) (a1 : List UInt8) (a2 : Bool) (a3 : List (List UInt8)) (a4 : Int) : Option ((List UInt8) × (List UInt8) × (List UInt8) × Bool × (List (List UInt8)) × Int) :=
 cond (decide ((a3.length : Int) ≤ a4))
 (some ([], a0, a1, a2, a3, a4))
 (rq ((decide (0 ≤ w64 ((w64 (a4 + 1)) - 1))) && (decide (w64 ((w64 (a4 + 1)) - 1) < (a3.length : Int)))) (some (a3.getD (Int.toNat (w64 ((w64 (a4 + 1)) - 1))) [], a0, a1, a2, a3, w64 (a4 + 1))))
def ref30_printer_operand_s : Shp := ⟨45, [.one (.ptr 0 0)], [.cells 39 [.dat .str, .dat .str, .dat .bool, .dat (.lst .str), .dat (.int .i64)]], [], ⟨.one (.dat .str), [some (.cells 39 [.dat .str, .dat .str, .dat .bool, .dat (.lst .str), .dat (.int .i64)])], [], []⟩, none, []⟩
def ref30_printer_operand_p : Plan := .seq [] none (.leaf) (.seq [] none (.seq [] none (.draw [⟨true, 10, none⟩]) (.leaf)) (.seq [] none (.leaf) (.seq [] none (.draw [⟨true, 12, none⟩]) (.leaf))))
def ref30_printer_operand_c (F : Nat) : Ctr E := ⟨ref30_printer_operand_s, fun (x : (List UInt8) × (List UInt8) × Bool × (List (List UInt8)) × Int) => ref30_printer_operand F x.1 x.2.1 x.2.2.1 x.2.2.2.1 x.2.2.2.2⟩
theorem ref30_printer_operand_ok (F : Nat) : (ref30_printer_operand_c F).Ok Tryz.prog := Ctr.ok_of (X := ⟨Tryz.prog, tyT, []⟩) (F := F) ⟨E_ok, okN, mixed⟩ (pl := ref30_printer_operand_p) Tryz.func45 (by kernel_rfl) (fun x => by kernel_rfl)
/- jobshell/jobshellref30.unescape -/
def ref30_unescape (F : Nat)  (a0 : List UInt8) : Option ((List UInt8) × Bool) :=
 loopF (σ := (List UInt8) × Int) (R := (List UInt8) × Bool) (fun rc2 x1 =>
 cond (decide (x1.2 < (a0.length : Int)))
 ((rq ((decide (0 ≤ x1.2)) && (decide (x1.2 < (a0.length : Int)))) (cond (((a0.getD (Int.toNat x1.2) 0).toNat : Int) != 92)
 (some true)
 (some (decide ((a0.length : Int) ≤ w64 (x1.2 + 1))))) : Option Bool).bind fun x3 =>
 cond x3
 (rq ((decide (0 ≤ x1.2)) && ((decide (x1.2 ≤ w64 (x1.2 + 1))) && (decide (w64 (x1.2 + 1) ≤ (a0.length : Int))))) (rq (decide (x1.1.length + (sl a0 x1.2 (w64 (x1.2 + 1))).length ≤ 9223372036854775807)) (rc2 (x1.1 ++ (sl a0 x1.2 (w64 (x1.2 + 1))), w64 (x1.2 + 1)))))
 (rq ((decide (0 ≤ w64 (x1.2 + 1))) && (decide (w64 (x1.2 + 1) < (a0.length : Int)))) ((ref30_simple F ((a0.getD (Int.toNat (w64 (x1.2 + 1))) 0).toNat : Int)).bind fun x4 =>
 cond (!(x4 == []))
 (rq (decide (x1.1.length + x4.length ≤ 9223372036854775807)) (rc2 (x1.1 ++ x4, w64 (x1.2 + 2))))
 (rq ((decide (0 ≤ w64 (x1.2 + 1))) && (decide (w64 (x1.2 + 1) < (a0.length : Int)))) (cond (((a0.getD (Int.toNat (w64 (x1.2 + 1))) 0).toNat : Int) == 99)
 (some (x1.1, true))
 (rq ((decide (0 ≤ w64 (x1.2 + 1))) && (decide (w64 (x1.2 + 1) < (a0.length : Int)))) (cond (((a0.getD (Int.toNat (w64 (x1.2 + 1))) 0).toNat : Int) == 48)
 ((ref30_octal F a0 (w64 (x1.2 + 2)) 3).bind fun x5 =>
 rq (decide (x1.1.length + x5.1.length ≤ 9223372036854775807)) (rc2 (x1.1 ++ x5.1, x5.2)))
 (rq (decide (x1.1.length + ([92] : List UInt8).length ≤ 9223372036854775807)) (rc2 (x1.1 ++ ([92] : List UInt8), w64 (x1.2 + 1)))))))))))
 (some (x1.1, false))) F ([], 0)
def ref30_unescape_s : Shp := ⟨46, [.one (.dat .str)], [], [], ⟨.tup [.dat .str, .dat .bool], [], [], []⟩, none, []⟩
def ref30_unescape_p : Plan := .seq [] none (.leaf) (.seq [] none (.leaf) (.seq [] none (.seq [] none (.leaf) (.loop [] ⟨[(4, .one (.dat .str)), (5, .one (.dat (.int .i64)))], [], [], []⟩ (.seq [] none (.leaf) (.seq [] none (.seq [] none (.region [(11, ⟨[(23, .one (.dat .bool))], [], [], []⟩, false)]) (.leaf)) (.leaf))))) (.leaf)))
def ref30_unescape_c (F : Nat) : Ctr E := ⟨ref30_unescape_s, fun (x : List UInt8) => ref30_unescape F x⟩
theorem ref30_unescape_ok (F : Nat) : (ref30_unescape_c F).Ok Tryz.prog := Ctr.ok_of (X := ⟨Tryz.prog, tyT, [ref30_simple_c F, ref30_octal_c F]⟩) (F := F) ⟨E_ok, okC (ref30_simple_ok F) (okC (ref30_octal_ok F) (okN)), mixed⟩ (pl := ref30_unescape_p) Tryz.func46 (by kernel_rfl) (fun x => by kernel_rfl)
/- jobshell/jobshellref05.digit -/
def ref05_digit (F : Nat)  (a0 : Int) : Option Bool :=
 (cond (decide (48 ≤ a0))
 (some (decide (a0 ≤ 57)))
 (some false) : Option Bool).bind fun x1 =>
 some x1
def ref05_digit_s : Shp := ⟨62, [.one (.dat (.int .u8))], [], [], ⟨.one (.dat .bool), [], [], []⟩, none, []⟩
def ref05_digit_p : Plan := .seq [] none (.leaf) (.seq [] none (.region [(6, ⟨[(8, .one (.dat .bool))], [], [], []⟩, false)]) (.leaf))
def ref05_digit_c (F : Nat) : Ctr E := ⟨ref05_digit_s, fun (x : Int) => ref05_digit F x⟩
theorem ref05_digit_ok (F : Nat) : (ref05_digit_c F).Ok Tryz.prog := Ctr.ok_of (X := ⟨Tryz.prog, tyT, []⟩) (F := F) ⟨E_ok, okN, mixed⟩ (pl := ref05_digit_p) Tryz.func62 (by kernel_rfl) (fun x => by kernel_rfl)
/- jobshell/jobshellref05.value -/
def ref05_value (F : Nat)  (a0 : Int) (a1 : Int) : Option Int :=
 ((ref05_digit F a0).bind fun x2 =>
 cond x2
 (some (w64 (IntKind.wrap .u8 (a0 - 48))))
 ((cond (decide (97 ≤ a0))
 (some (decide (a0 ≤ 102)))
 (some false) : Option Bool).bind fun x3 =>
 cond x3
 (some (w64 ((w64 (IntKind.wrap .u8 (a0 - 97))) + 10)))
 ((cond (decide (65 ≤ a0))
 (some (decide (a0 ≤ 70)))
 (some false) : Option Bool).bind fun x4 =>
 cond x4
 (some (w64 ((w64 (IntKind.wrap .u8 (a0 - 65))) + 10)))
 (some (-1)))) : Option Int).bind fun x1 =>
 cond (decide (a1 ≤ x1))
 (some (-1))
 (some x1)
def ref05_value_s : Shp := ⟨52, [.one (.dat (.int .u8)), .one (.dat (.int .i64))], [], [], ⟨.one (.dat (.int .i64)), [], [], []⟩, none, []⟩
def ref05_value_p : Plan := .seq [] none (.leaf) (.seq [] none (.leaf) (.seq [] (some (⟨[(5, .one (.dat (.int .i64)))], [], [], []⟩, false)) (.seq [] none (.leaf) (.cond (.leaf) (.seq [] none (.region [(6, ⟨[(18, .one (.dat .bool))], [], [], []⟩, false)]) (.cond (.leaf) (.seq [] none (.region [(6, ⟨[(29, .one (.dat .bool))], [], [], []⟩, false)]) (.leaf)))))) (.leaf)))
def ref05_value_c (F : Nat) : Ctr E := ⟨ref05_value_s, fun (x : Int × Int) => ref05_value F x.1 x.2⟩
theorem ref05_value_ok (F : Nat) : (ref05_value_c F).Ok Tryz.prog := Ctr.ok_of (X := ⟨Tryz.prog, tyT, [ref05_digit_c F]⟩) (F := F) ⟨E_ok, okC (ref05_digit_ok F) (okN), mixed⟩ (pl := ref05_value_p) Tryz.func52 (by kernel_rfl) (fun x => by kernel_rfl)
/- jobshell/jobshellref05.Constant -/
def ref05_Constant (F : Nat)  (a0 : List UInt8) : Option (Int × Int) :=
 ((cond (decide (2 < (a0.length : Int)))
 (rq (decide (0 < (a0.length : Int))) (some (((a0.getD 0 0).toNat : Int) == 48)))
 (some false) : Option Bool).bind fun x2 =>
 (cond x2
 (rq (decide (1 < (a0.length : Int))) (cond (((a0.getD 1 0).toNat : Int) == 120)
 (some true)
 (rq (decide (1 < (a0.length : Int))) (some (((a0.getD 1 0).toNat : Int) == 88)))))
 (some false) : Option Bool).bind fun x3 =>
 cond x3
 (rq ((decide (2 ≤ (a0.length : Int))) && (decide ((a0.length : Int) ≤ (a0.length : Int)))) (some (sl a0 2 (a0.length : Int), 16)))
 ((cond (decide (1 < (a0.length : Int)))
 (rq (decide (0 < (a0.length : Int))) (some (((a0.getD 0 0).toNat : Int) == 48)))
 (some false) : Option Bool).bind fun x4 =>
 cond x4
 (rq ((decide (1 ≤ (a0.length : Int))) && (decide ((a0.length : Int) ≤ (a0.length : Int)))) (some (sl a0 1 (a0.length : Int), 8)))
 (some (a0, 10))) : Option ((List UInt8) × Int)).bind fun x1 =>
 cond (x1.1 == [])
 (some (0, 6))
 (loopF (σ := Int) (R := Int × Int) (fun rc6 x5 =>
 cond (decide (x5 < (x1.1.length : Int)))
 (rq ((decide (0 ≤ x5)) && (decide (x5 < (x1.1.length : Int)))) ((ref05_value F ((x1.1.getD (Int.toNat x5) 0).toNat : Int) x1.2).bind fun x7 =>
 cond (decide (x7 < 0))
 (some (0, 6))
 (rc6 (w64 (x5 + 1)))))
 (loopF (σ := Int × Int) (R := Int × Int) (fun rc9 x8 =>
 cond (decide (x8.2 < (x1.1.length : Int)))
 (rq ((decide (0 ≤ x8.2)) && (decide (x8.2 < (x1.1.length : Int)))) ((ref05_value F ((x1.1.getD (Int.toNat x8.2) 0).toNat : Int) x1.2).bind fun x10 =>
 rq (!((IntKind.wrap .u64 x1.2) == 0)) (cond (decide (IntKind.wrap .u64 (Int.tdiv (IntKind.wrap .u64 (9223372036854775808 - (IntKind.wrap .u64 x10))) (IntKind.wrap .u64 x1.2)) < x8.1))
 (some (0, 14))
 (rc9 (IntKind.wrap .u64 ((IntKind.wrap .u64 (x8.1 * (IntKind.wrap .u64 x1.2))) + (IntKind.wrap .u64 x10)), w64 (x8.2 + 1))))))
 (some (x8.1, 0))) F (0, 0))) F 0)
def ref05_Constant_s : Shp := ⟨31, [.one (.dat .str)], [], [], ⟨.tup [.dat (.int .u64), .dat (.int .i64)], [], [], []⟩, none, []⟩
def ref05_Constant_p : Plan := .seq [] none (.leaf) (.seq [] none (.leaf) (.seq [] (some (⟨[(0, .one (.dat .str)), (4, .one (.dat (.int .i64)))], [], [], []⟩, false)) (.seq [] none (.region [(8, ⟨[(16, .one (.dat .bool))], [], [], []⟩, false), (10, ⟨[(26, .one (.dat .bool))], [], [], []⟩, false)]) (.cond (.leaf) (.seq [] none (.region [(8, ⟨[(36, .one (.dat .bool))], [], [], []⟩, false)]) (.leaf)))) (.seq [] none (.leaf) (.seq [] none (.seq [] none (.leaf) (.loop [] ⟨[(5, .one (.dat (.int .i64)))], [], [], []⟩ (.leaf))) (.seq [] none (.leaf) (.seq [] none (.seq [] none (.leaf) (.loop [] ⟨[(6, .one (.dat (.int .u64))), (7, .one (.dat (.int .i64)))], [], [], []⟩ (.leaf))) (.leaf)))))))
def ref05_Constant_c (F : Nat) : Ctr E := ⟨ref05_Constant_s, fun (x : List UInt8) => ref05_Constant F x⟩
theorem ref05_Constant_ok (F : Nat) : (ref05_Constant_c F).Ok Tryz.prog := Ctr.ok_of (X := ⟨Tryz.prog, tyT, [ref05_value_c F]⟩) (F := F) ⟨E_ok, okC (ref05_value_ok F) (okN), mixed⟩ (pl := ref05_Constant_p) Tryz.func31 (by kernel_rfl) (fun x => by kernel_rfl)
/- jobshell/jobshellref06.constant -/
def ref06_constant (F : Nat)  (a0 : List UInt8) : Option (Int × Int) :=
 (cond (a0 == [])
 (some true)
 (rq (decide (0 < (a0.length : Int))) (some (decide (((a0.getD 0 0).toNat : Int) < 48)))) : Option Bool).bind fun x1 =>
 (cond x1
 (some true)
 (rq (decide (0 < (a0.length : Int))) (some (decide (57 < ((a0.getD 0 0).toNat : Int))))) : Option Bool).bind fun x2 =>
 cond x2
 (some (0, 6))
 ((ref05_Constant F a0).bind fun x3 =>
 some (x3.1, x3.2))
def ref06_constant_s : Shp := ⟨18, [.one (.dat .str)], [], [], ⟨.tup [.dat (.int .u64), .dat (.int .i64)], [], [], []⟩, none, []⟩
def ref06_constant_p : Plan := .seq [] none (.leaf) (.seq [] none (.seq [] none (.region [(7, ⟨[(10, .one (.dat .bool))], [], [], []⟩, false), (5, ⟨[(15, .one (.dat .bool))], [], [], []⟩, false)]) (.leaf)) (.leaf))
def ref06_constant_c (F : Nat) : Ctr E := ⟨ref06_constant_s, fun (x : List UInt8) => ref06_constant F x⟩
theorem ref06_constant_ok (F : Nat) : (ref06_constant_c F).Ok Tryz.prog := Ctr.ok_of (X := ⟨Tryz.prog, tyT, [ref05_Constant_c F]⟩) (F := F) ⟨E_ok, okC (ref05_Constant_ok F) (okN), mixed⟩ (pl := ref06_constant_p) Tryz.func18 (by kernel_rfl) (fun x => by kernel_rfl)
/- jobshell/jobshellref06.Value -/
def ref06_Value (F : Nat)  (a0 : List UInt8) : Option (Int × Bool) :=
 cond (a0 == [])
 (some (0, true))
 (rq (decide (0 < (a0.length : Int))) ((cond (((a0.getD 0 0).toNat : Int) == 45)
 (some 9223372036854775808)
 (some 9223372036854775807) : Option Int).bind fun x1 =>
 ((rq (decide (0 < (a0.length : Int))) (cond (((a0.getD 0 0).toNat : Int) == 45)
 (some true)
 (rq (decide (0 < (a0.length : Int))) (some (((a0.getD 0 0).toNat : Int) == 43)))) : Option Bool).bind fun x3 =>
 cond x3
 (rq ((decide (1 ≤ (a0.length : Int))) && (decide ((a0.length : Int) ≤ (a0.length : Int)))) (some (sl a0 1 (a0.length : Int))))
 (some a0) : Option (List UInt8)).bind fun x2 =>
 (ref06_constant F x2).bind fun x4 =>
 (cond (x4.2 != 0)
 (some true)
 (some (decide (x1 < x4.1))) : Option Bool).bind fun x5 =>
 cond x5
 (some (0, false))
 (cond (((a0.getD 0 0).toNat : Int) == 45)
 (some (w64 (IntKind.wrap .u64 (0 - x4.1)), true))
 (some (w64 x4.1, true)))))
def ref06_Value_s : Shp := ⟨59, [.one (.dat .str)], [], [], ⟨.tup [.dat (.int .i64), .dat .bool], [], [], []⟩, none, []⟩
def ref06_Value_p : Plan := .seq [] none (.leaf) (.seq [] none (.leaf) (.seq [] none (.leaf) (.seq [] none (.leaf) (.seq [] (some (⟨[(4, .one (.dat (.int .u64)))], [], [], []⟩, false)) (.leaf) (.seq [] (some (⟨[(0, .one (.dat .str))], [], [], []⟩, false)) (.seq [] none (.region [(8, ⟨[(23, .one (.dat .bool))], [], [], []⟩, false)]) (.leaf)) (.seq [] none (.leaf) (.seq [] none (.seq [] none (.region [(7, ⟨[(37, .one (.dat .bool))], [], [], []⟩, false)]) (.leaf)) (.leaf))))))))
def ref06_Value_c (F : Nat) : Ctr E := ⟨ref06_Value_s, fun (x : List UInt8) => ref06_Value F x⟩
theorem ref06_Value_ok (F : Nat) : (ref06_Value_c F).Ok Tryz.prog := Ctr.ok_of (X := ⟨Tryz.prog, tyT, [ref06_constant_c F]⟩) (F := F) ⟨E_ok, okC (ref06_constant_ok F) (okN), mixed⟩ (pl := ref06_Value_p) Tryz.func59 (by kernel_rfl) (fun x => by kernel_rfl)
/- (*jobshell/jobshellref30.printer).number -/
def ref30_printer_number (F : Nat)  (a0 : List UInt8) (a1 : List UInt8) (a2 : List UInt8) (a3 : Bool) (a4 : List (List UInt8)) (a5 : Int) : Option (Int × (List UInt8) × (List UInt8) × Bool × (List (List UInt8)) × Int) :=
 (cond (!(a0 == []))
 (rq (decide (0 < (a0.length : Int))) (cond (((a0.getD 0 0).toNat : Int) == 39)
 (some true)
 (rq (decide (0 < (a0.length : Int))) (some (((a0.getD 0 0).toNat : Int) == 34)))))
 (some false) : Option Bool).bind fun x1 =>
 cond x1
 (cond (decide ((a0.length : Int) < 2))
 (some (0, a1, a2, a3, a4, a5))
 (rq (decide (1 < (a0.length : Int))) (some (w64 ((a0.getD 1 0).toNat : Int), a1, a2, a3, a4, a5))))
 ((ref06_Value F a0).bind fun x2 =>
 cond (!x2.2)
 (rq (decide (a0.length + ([58, 32, 110, 111, 116, 32, 97, 32, 110, 117, 109, 98, 101, 114] : List UInt8).length ≤ 9223372036854775807)) ((ref30_printer_fail F (a0 ++ ([58, 32, 110, 111, 116, 32, 97, 32, 110, 117, 109, 98, 101, 114] : List UInt8)) a1 a2 a3 a4 a5).bind fun x3 =>
 some (0, x3.1, x3.2.1, x3.2.2.1, x3.2.2.2.1, x3.2.2.2.2)))
 (some (x2.1, a1, a2, a3, a4, a5)))
def ref30_printer_number_s : Shp := ⟨48, [.one (.ptr 0 0), .one (.dat .str)], [.cells 39 [.dat .str, .dat .str, .dat .bool, .dat (.lst .str), .dat (.int .i64)]], [], ⟨.one (.dat (.int .i64)), [some (.cells 39 [.dat .str, .dat .str, .dat .bool, .dat (.lst .str), .dat (.int .i64)])], [], []⟩, none, []⟩
def ref30_printer_number_p : Plan := .seq [] none (.leaf) (.seq [] none (.seq [] none (.region [(12, ⟨[(18, .one (.dat .bool))], [none], [], []⟩, false)]) (.leaf)) (.leaf))
def ref30_printer_number_c (F : Nat) : Ctr E := ⟨ref30_printer_number_s, fun (x : (List UInt8) × (List UInt8) × (List UInt8) × Bool × (List (List UInt8)) × Int) => ref30_printer_number F x.1 x.2.1 x.2.2.1 x.2.2.2.1 x.2.2.2.2.1 x.2.2.2.2.2⟩
theorem ref30_printer_number_ok (F : Nat) : (ref30_printer_number_c F).Ok Tryz.prog := Ctr.ok_of (X := ⟨Tryz.prog, tyT, [ref06_Value_c F, ref30_printer_fail_c F]⟩) (F := F) ⟨E_ok, okC (ref06_Value_ok F) (okC (ref30_printer_fail_ok F) (okN)), mixed⟩ (pl := ref30_printer_number_p) Tryz.func48 (by kernel_rfl) (fun x => by kernel_rfl)
/- jobshell/jobshellref30.based -/
def ref30_based (F : Nat)  (a0 : Int) (a1 : Int) : Option (List UInt8) :=
 loopF (σ := Int × (List UInt8)) (R := List UInt8) (fun rc2 x1 =>
 cond (decide (0 < x1.1))
 (rq (!(a1 == 0)) (rq (!(a1 == 0)) (rq ((decide (0 ≤ Int.tmod x1.1 a1)) && ((decide (Int.tmod x1.1 a1 ≤ IntKind.wrap .u64 ((Int.tmod x1.1 a1) + 1))) && (decide (IntKind.wrap .u64 ((Int.tmod x1.1 a1) + 1) ≤ (([48, 49, 50, 51, 52, 53, 54, 55, 56, 57, 97, 98, 99, 100, 101, 102] : List UInt8).length : Int))))) (rq (decide ((sl ([48, 49, 50, 51, 52, 53, 54, 55, 56, 57, 97, 98, 99, 100, 101, 102] : List UInt8) (Int.tmod x1.1 a1) (IntKind.wrap .u64 ((Int.tmod x1.1 a1) + 1))).length + x1.2.length ≤ 9223372036854775807)) (rq (!(a1 == 0)) (rc2 (IntKind.wrap .u64 (Int.tdiv x1.1 a1), (sl ([48, 49, 50, 51, 52, 53, 54, 55, 56, 57, 97, 98, 99, 100, 101, 102] : List UInt8) (Int.tmod x1.1 a1) (IntKind.wrap .u64 ((Int.tmod x1.1 a1) + 1))) ++ x1.2)))))))
 (cond (x1.2 == [])
 (some ([48] : List UInt8))
 (some x1.2))) F (a0, [])
def ref30_based_s : Shp := ⟨58, [.one (.dat (.int .u64)), .one (.dat (.int .u64))], [], [], ⟨.one (.dat .str), [], [], []⟩, none, []⟩
def ref30_based_p : Plan := .seq [] none (.leaf) (.seq [] none (.leaf) (.seq [] none (.leaf) (.seq [] none (.loop [] ⟨[(0, .one (.dat (.int .u64))), (6, .one (.dat .str))], [], [], []⟩ (.seq [] none (.leaf) (.seq [] none (.draw [⟨true, 12, none⟩]) (.leaf)))) (.leaf))))
def ref30_based_c (F : Nat) : Ctr E := ⟨ref30_based_s, fun (x : Int × Int) => ref30_based F x.1 x.2⟩
theorem ref30_based_ok (F : Nat) : (ref30_based_c F).Ok Tryz.prog := Ctr.ok_of (X := ⟨Tryz.prog, tyT, []⟩) (F := F) ⟨E_ok, okN, mixed⟩ (pl := ref30_based_p) Tryz.func58 (by kernel_rfl) (fun x => by kernel_rfl)
/- jobshell/jobshellref05.digits -/
def ref05_digits (F : Nat)  (a0 : Int) : Option (List UInt8) :=
 loopF (σ := Int × (List UInt8)) (R := List UInt8) (fun rc2 x1 =>
 cond (decide (9 < x1.1))
 (rq (decide ((toBytes ([IntKind.wrap .u8 (IntKind.wrap .u64 (48 + (Int.tmod x1.1 10)))] : List Int)).length + x1.2.length ≤ 9223372036854775807)) (rc2 (IntKind.wrap .u64 (Int.tdiv x1.1 10), (toBytes ([IntKind.wrap .u8 (IntKind.wrap .u64 (48 + (Int.tmod x1.1 10)))] : List Int)) ++ x1.2)))
 (rq (decide ((toBytes ([IntKind.wrap .u8 (IntKind.wrap .u64 (48 + x1.1))] : List Int)).length + x1.2.length ≤ 9223372036854775807)) (some ((toBytes ([IntKind.wrap .u8 (IntKind.wrap .u64 (48 + x1.1))] : List Int)) ++ x1.2)))) F (a0, [])
def ref05_digits_s : Shp := ⟨17, [.one (.dat (.int .u64))], [], [], ⟨.one (.dat .str), [], [], []⟩, none, []⟩
def ref05_digits_p : Plan := .seq [] none (.leaf) (.seq [] none (.leaf) (.seq [] none (.loop [] ⟨[(0, .one (.dat (.int .u64))), (3, .one (.dat .str))], [], [], []⟩ (.leaf)) (.leaf)))
def ref05_digits_c (F : Nat) : Ctr E := ⟨ref05_digits_s, fun (x : Int) => ref05_digits F x⟩
theorem ref05_digits_ok (F : Nat) : (ref05_digits_c F).Ok Tryz.prog := Ctr.ok_of (X := ⟨Tryz.prog, tyT, []⟩) (F := F) ⟨E_ok, okN, mixed⟩ (pl := ref05_digits_p) Tryz.func17 (by kernel_rfl) (fun x => by kernel_rfl)
/- jobshell/jobshellref05.Decimal -/
def ref05_Decimal (F : Nat)  (a0 : Int) : Option (List UInt8) :=
 cond (decide (a0 < 0))
 ((ref05_digits F (IntKind.wrap .u64 ((IntKind.wrap .u64 (w64 (0 - (w64 (a0 + 1))))) + 1))).bind fun x1 =>
 rq (decide (([45] : List UInt8).length + x1.length ≤ 9223372036854775807)) (some (([45] : List UInt8) ++ x1)))
 ((ref05_digits F (IntKind.wrap .u64 a0)).bind fun x2 =>
 some x2)
def ref05_Decimal_s : Shp := ⟨12, [.one (.dat (.int .i64))], [], [], ⟨.one (.dat .str), [], [], []⟩, none, []⟩
def ref05_Decimal_p : Plan := .leaf
def ref05_Decimal_c (F : Nat) : Ctr E := ⟨ref05_Decimal_s, fun (x : Int) => ref05_Decimal F x⟩
theorem ref05_Decimal_ok (F : Nat) : (ref05_Decimal_c F).Ok Tryz.prog := Ctr.ok_of (X := ⟨Tryz.prog, tyT, [ref05_digits_c F]⟩) (F := F) ⟨E_ok, okC (ref05_digits_ok F) (okN), mixed⟩ (pl := ref05_Decimal_p) Tryz.func12 (by kernel_rfl) (fun x => by kernel_rfl)
/- jobshell/jobshellref30.numeric -/
def ref30_numeric (F : Nat)  (a0 : Tconversion) (a1 : Int) : Option ((List UInt8) × (List UInt8)) :=
 (cond (a0.fletter == 117)
 ((ref30_based F (IntKind.wrap .u64 a1) 10).bind fun x2 =>
 some ([], x2))
 (cond (a0.fletter == 120)
 ((ref30_based F (IntKind.wrap .u64 a1) 16).bind fun x3 =>
 some ([], x3))
 (cond (a0.fletter == 111)
 ((ref30_based F (IntKind.wrap .u64 a1) 8).bind fun x4 =>
 some ([], x4))
 (cond (decide (a1 < 0))
 ((ref05_Decimal F a1).bind fun x5 =>
 rq ((decide (1 ≤ (x5.length : Int))) && (decide ((x5.length : Int) ≤ (x5.length : Int)))) (some (([45] : List UInt8), sl x5 1 (x5.length : Int))))
 ((ref05_Decimal F a1).bind fun x6 =>
 cond a0.fplus
 (some (([43] : List UInt8), x6))
 (some ([], x6)))))) : Option ((List UInt8) × (List UInt8))).bind fun x1 =>
 ((cond (a0.fprecision == 0)
 (some (a1 == 0))
 (some false) : Option Bool).bind fun x8 =>
 cond x8
 (some [])
 (some x1.2) : Option (List UInt8)).bind fun x7 =>
 (cond (decide ((x7.length : Int) < a0.fprecision))
 ((ref30_times F ([48] : List UInt8) (w64 (a0.fprecision - (x7.length : Int)))).bind fun x10 =>
 rq (decide (x10.length + x7.length ≤ 9223372036854775807)) (some (x10 ++ x7)))
 (some x7) : Option (List UInt8)).bind fun x9 =>
 some (x1.1, x9)
def ref30_numeric_s : Shp := ⟨47, [.one (.dat (.ext 5)), .one (.dat (.int .i64))], [], [], ⟨.tup [.dat .str, .dat .str], [], [], []⟩, none, []⟩
def ref30_numeric_p : Plan := .seq [] none (.leaf) (.seq [] none (.leaf) (.seq [] (some (⟨[(6, .one (.dat .str)), (7, .one (.dat .str))], [none], [], []⟩, false)) (.seq [] none (.leaf) (.cond (.leaf) (.seq [] none (.leaf) (.cond (.leaf) (.seq [] none (.leaf) (.cond (.leaf) (.seq [] none (.leaf) (.cond (.draw [⟨true, 1, none⟩, ⟨false, 1, none⟩, ⟨true, 3, none⟩]) (.leaf))))))))) (.seq [] (some (⟨[(7, .one (.dat .str))], [none], [], []⟩, false)) (.seq [] none (.region [(7, ⟨[(45, .one (.dat .bool))], [none], [], []⟩, false)]) (.leaf)) (.seq [] (some (⟨[(7, .one (.dat .str))], [none], [], []⟩, false)) (.leaf) (.leaf)))))
def ref30_numeric_c (F : Nat) : Ctr E := ⟨ref30_numeric_s, fun (x : Tconversion × Int) => ref30_numeric F x.1 x.2⟩
theorem ref30_numeric_ok (F : Nat) : (ref30_numeric_c F).Ok Tryz.prog := Ctr.ok_of (X := ⟨Tryz.prog, tyT, [ref30_based_c F, ref05_Decimal_c F, ref30_times_c F]⟩) (F := F) ⟨E_ok, okC (ref30_based_ok F) (okC (ref05_Decimal_ok F) (okC (ref30_times_ok F) (okN))), mixed⟩ (pl := ref30_numeric_p) Tryz.func47 (by kernel_rfl) (fun x => by kernel_rfl)
/- (*jobshell/jobshellref30.printer).convert -/
def ref30_printer_convert (F : Nat)  (a0 : Tconversion) (a1 : List UInt8) (a2 : List UInt8) (a3 : Bool) (a4 : List (List UInt8)) (a5 : Int) : Option ((List UInt8) × Bool × (List UInt8) × (List UInt8) × Bool × (List (List UInt8)) × Int) :=
 cond (a0.fletter == 37)
 ((ref30_fill F a0 ([37] : List UInt8)).bind fun x1 =>
 some (x1, false, a1, a2, a3, a4, a5))
 ((ref30_printer_operand F a1 a2 a3 a4 a5).bind fun x2 =>
 cond (a0.fletter == 99)
 ((cond (!(x2.1 == []))
 (rq (decide (1 ≤ (x2.1.length : Int))) (some (sl x2.1 0 1)))
 (some x2.1) : Option (List UInt8)).bind fun x3 =>
 (ref30_fill F a0 x3).bind fun x4 =>
 some (x4, false, x2.2.1, x2.2.2.1, x2.2.2.2.1, x2.2.2.2.2.1, x2.2.2.2.2.2))
 ((cond (a0.fletter == 115)
 (some (a0.fletter == 115))
 (some (a0.fletter == 98)) : Option Bool).bind fun x5 =>
 cond x5
 ((cond (a0.fletter == 98)
 ((ref30_unescape F x2.1).bind fun x7 =>
 some (x7.1, x7.2))
 (some (x2.1, false)) : Option ((List UInt8) × Bool)).bind fun x6 =>
 ((cond (decide (0 ≤ a0.fprecision))
 (some (decide (a0.fprecision < (x6.1.length : Int))))
 (some false) : Option Bool).bind fun x9 =>
 cond x9
 (rq ((decide (0 ≤ a0.fprecision)) && (decide (a0.fprecision ≤ (x6.1.length : Int)))) (some (sl x6.1 0 a0.fprecision)))
 (some x6.1) : Option (List UInt8)).bind fun x8 =>
 (ref30_fill F a0 x8).bind fun x10 =>
 some (x10, x6.2, x2.2.1, x2.2.2.1, x2.2.2.2.1, x2.2.2.2.2.1, x2.2.2.2.2.2))
 ((ref30_printer_number F x2.1 x2.2.1 x2.2.2.1 x2.2.2.2.1 x2.2.2.2.2.1 x2.2.2.2.2.2).bind fun x11 =>
 (ref30_numeric F a0 x11.1).bind fun x12 =>
 ((cond a0.fzero
 (some (!a0.fminus))
 (some false) : Option Bool).bind fun x14 =>
 (cond x14
 (some (decide (a0.fprecision < 0)))
 (some false) : Option Bool).bind fun x15 =>
 (cond x15
 (some (decide (w64 ((x12.1.length : Int) + (x12.2.length : Int)) < a0.fwidth)))
 (some false) : Option Bool).bind fun x16 =>
 cond x16
 ((ref30_times F ([48] : List UInt8) (w64 ((w64 (a0.fwidth - (x12.1.length : Int))) - (x12.2.length : Int)))).bind fun x17 =>
 rq (decide (x17.length + x12.2.length ≤ 9223372036854775807)) (some (x17 ++ x12.2)))
 (some x12.2) : Option (List UInt8)).bind fun x13 =>
 rq (decide (x12.1.length + x13.length ≤ 9223372036854775807)) ((ref30_fill F a0 (x12.1 ++ x13)).bind fun x18 =>
 some (x18, false, x11.2.1, x11.2.2.1, x11.2.2.2.1, x11.2.2.2.2.1, x11.2.2.2.2.2)))))
def ref30_printer_convert_s : Shp := ⟨27, [.one (.ptr 0 0), .one (.dat (.ext 5))], [.cells 39 [.dat .str, .dat .str, .dat .bool, .dat (.lst .str), .dat (.int .i64)]], [], ⟨.tup [.dat .str, .dat .bool], [some (.cells 39 [.dat .str, .dat .str, .dat .bool, .dat (.lst .str), .dat (.int .i64)])], [], []⟩, none, []⟩
def ref30_printer_convert_p : Plan := .seq [] none (.leaf) (.seq [] none (.leaf) (.seq [] none (.leaf) (.seq [] none (.leaf) (.seq [] none (.seq [] none (.leaf) (.seq [] none (.leaf) (.cond (.seq [] (some (⟨[(6, .one (.dat .str))], [none, none], [], []⟩, false)) (.leaf) (.leaf)) (.seq [] (some (⟨[(28, .one (.dat .bool))], [none, none], [], []⟩, false)) (.leaf) (.cond (.seq [] (some (⟨[(6, .one (.dat .str)), (7, .one (.dat .bool))], [none, none], [], []⟩, false)) (.leaf) (.seq [] (some (⟨[(6, .one (.dat .str))], [none, none], [], []⟩, false)) (.seq [] none (.region [(10, ⟨[(48, .one (.dat .bool))], [none, none], [], []⟩, false)]) (.leaf)) (.leaf))) (.leaf)))))) (.seq [] none (.drawP [1] [] [⟨[(0, true), (1, true), (2, true), (3, false), (4, false), (5, false), (6, true), (7, true), (8, false), (9, false)], none⟩]) (.seq [] (some (⟨[(9, .one (.dat .str))], [none, none], [], []⟩, false)) (.seq [] none (.region [(7, ⟨[(71, .one (.dat .bool))], [none, none], [], []⟩, false), (5, ⟨[(76, .one (.dat .bool))], [none, none], [], []⟩, false), (10, ⟨[(86, .one (.dat .bool))], [none, none], [], []⟩, false)]) (.leaf)) (.leaf)))))))
def ref30_printer_convert_c (F : Nat) : Ctr E := ⟨ref30_printer_convert_s, fun (x : Tconversion × (List UInt8) × (List UInt8) × Bool × (List (List UInt8)) × Int) => ref30_printer_convert F x.1 x.2.1 x.2.2.1 x.2.2.2.1 x.2.2.2.2.1 x.2.2.2.2.2⟩
theorem ref30_printer_convert_ok (F : Nat) : (ref30_printer_convert_c F).Ok Tryz.prog := Ctr.ok_of (X := ⟨Tryz.prog, tyT, [ref30_fill_c F, ref30_printer_operand_c F, ref30_unescape_c F, ref30_printer_number_c F, ref30_numeric_c F, ref30_times_c F]⟩) (F := F) ⟨E_ok, okC (ref30_fill_ok F) (okC (ref30_printer_operand_ok F) (okC (ref30_unescape_ok F) (okC (ref30_printer_number_ok F) (okC (ref30_numeric_ok F) (okC (ref30_times_ok F) (okN)))))), mixed⟩ (pl := ref30_printer_convert_p) Tryz.func27 (by kernel_rfl) (fun x => by kernel_rfl)
/- (*jobshell/jobshellref30.printer).pass -/
def ref30_printer_pass (F : Nat)  (a0 : List UInt8) (a1 : List UInt8) (a2 : List UInt8) (a3 : Bool) (a4 : List (List UInt8)) (a5 : Int) : Option ((List UInt8) × (List UInt8) × Bool × (List (List UInt8)) × Int) :=
 loopF (σ := Int × (List UInt8) × (List UInt8) × Bool × (List (List UInt8)) × Int) (R := (List UInt8) × (List UInt8) × Bool × (List (List UInt8)) × Int) (fun rc2 x1 =>
 (cond (decide (x1.1 < (a0.length : Int)))
 (some (!x1.2.2.2.1))
 (some false) : Option Bool).bind fun x3 =>
 cond x3
 (rq ((decide (0 ≤ x1.1)) && (decide (x1.1 < (a0.length : Int)))) (cond (((a0.getD (Int.toNat x1.1) 0).toNat : Int) == 92)
 ((ref30_escape F a0 x1.1).bind fun x4 =>
 (ref30_printer_put F x4.1 x1.2.1 x1.2.2.1 x1.2.2.2.1 x1.2.2.2.2.1 x1.2.2.2.2.2).bind fun x5 =>
 rc2 (x4.2, x5.1, x5.2.1, x5.2.2.1, x5.2.2.2.1, x5.2.2.2.2))
 (cond (((a0.getD (Int.toNat x1.1) 0).toNat : Int) == 37)
 ((ref30_read F a0 x1.1).bind fun x6 =>
 cond (!x6.2.2)
 ((ref30_printer_fail F ([105, 110, 118, 97, 108, 105, 100, 32, 99, 111, 110, 118, 101, 114, 115, 105, 111, 110] : List UInt8) x1.2.1 x1.2.2.1 x1.2.2.2.1 x1.2.2.2.2.1 x1.2.2.2.2.2).bind fun x7 =>
 some (x7.1, x7.2.1, true, x7.2.2.2.1, x7.2.2.2.2))
 ((ref30_printer_convert F x6.1 x1.2.1 x1.2.2.1 x1.2.2.2.1 x1.2.2.2.2.1 x1.2.2.2.2.2).bind fun x8 =>
 (ref30_printer_put F x8.1 x8.2.2.1 x8.2.2.2.1 x8.2.2.2.2.1 x8.2.2.2.2.2.1 x8.2.2.2.2.2.2).bind fun x9 =>
 (cond x9.2.2.1
 (some true)
 (some x8.2.1) : Option Bool).bind fun x10 =>
 rc2 (x6.2.1, x9.1, x9.2.1, x10, x9.2.2.2.1, x9.2.2.2.2)))
 (rq ((decide (0 ≤ x1.1)) && ((decide (x1.1 ≤ w64 (x1.1 + 1))) && (decide (w64 (x1.1 + 1) ≤ (a0.length : Int))))) ((ref30_printer_put F (sl a0 x1.1 (w64 (x1.1 + 1))) x1.2.1 x1.2.2.1 x1.2.2.2.1 x1.2.2.2.2.1 x1.2.2.2.2.2).bind fun x11 =>
 rc2 (w64 (x1.1 + 1), x11.1, x11.2.1, x11.2.2.1, x11.2.2.2.1, x11.2.2.2.2))))))
 (some (x1.2.1, x1.2.2.1, x1.2.2.2.1, x1.2.2.2.2.1, x1.2.2.2.2.2))) F (0, a1, a2, a3, a4, a5)
def ref30_printer_pass_s : Shp := ⟨15, [.one (.ptr 0 0), .one (.dat .str)], [.cells 39 [.dat .str, .dat .str, .dat .bool, .dat (.lst .str), .dat (.int .i64)]], [], ⟨.tup [], [some (.cells 39 [.dat .str, .dat .str, .dat .bool, .dat (.lst .str), .dat (.int .i64)])], [], []⟩, none, []⟩
def ref30_printer_pass_p : Plan := .seq [] none (.leaf) (.loop [] ⟨[(4, .one (.dat (.int .i64)))], [some (.cells 39 [.dat .str, .dat .str, .dat .bool, .dat (.lst .str), .dat (.int .i64)])], [], []⟩ (.seq [] none (.seq [] none (.region [(11, ⟨[(22, .one (.dat .bool))], [none], [], []⟩, false)]) (.leaf)) (.seq [] none (.leaf) (.seq [] none (.leaf) (.cond (.leaf) (.seq [] none (.leaf) (.cond (.seq [] none (.leaf) (.seq [] none (.leaf) (.seq [] none (.leaf) (.seq [] none (.leaf) (.seq [] none (.region [(8, ⟨[(72, .one (.ptr 0 0)), (79, .one (.dat .bool))], [none, none], [], []⟩, false)]) (.leaf)))))) (.leaf))))))))
def ref30_printer_pass_c (F : Nat) : Ctr E := ⟨ref30_printer_pass_s, fun (x : (List UInt8) × (List UInt8) × (List UInt8) × Bool × (List (List UInt8)) × Int) => ref30_printer_pass F x.1 x.2.1 x.2.2.1 x.2.2.2.1 x.2.2.2.2.1 x.2.2.2.2.2⟩
theorem ref30_printer_pass_ok (F : Nat) : (ref30_printer_pass_c F).Ok Tryz.prog := Ctr.ok_of (X := ⟨Tryz.prog, tyT, [ref30_escape_c F, ref30_printer_put_c F, ref30_read_c F, ref30_printer_fail_c F, ref30_printer_convert_c F]⟩) (F := F) ⟨E_ok, okC (ref30_escape_ok F) (okC (ref30_printer_put_ok F) (okC (ref30_read_ok F) (okC (ref30_printer_fail_ok F) (okC (ref30_printer_convert_ok F) (okN))))), mixed⟩ (pl := ref30_printer_pass_p) Tryz.func15 (by kernel_rfl) (fun x => by kernel_rfl)
/- jobshell/jobshellref30.Printf -/
def ref30_Printf (F : Nat)  (a0 : List (List UInt8)) : Option ((List UInt8) × (List UInt8) × Int) :=
 cond ((a0.length : Int) == 0)
 (some ([], ([109, 105, 115, 115, 105, 110, 103, 32, 102, 111, 114, 109, 97, 116] : List UInt8), 2))
 (rq ((decide (1 ≤ (a0.length : Int))) && (decide ((a0.length : Int) ≤ (a0.length : Int)))) ((loopF (σ := Int × (List UInt8) × (List UInt8) × Bool × (List (List UInt8)) × Int) (R := (List UInt8) × (List UInt8) × Bool × (List (List UInt8)) × Int) (fun rc3 x2 =>
 cond (decide (x2.1 ≤ (a0.length : Int)))
 (rq (decide (0 < (a0.length : Int))) ((ref30_printer_pass F (a0.getD 0 []) x2.2.1 x2.2.2.1 x2.2.2.2.1 x2.2.2.2.2.1 x2.2.2.2.2.2).bind fun x4 =>
 (cond x4.2.2.1
 (some true)
 (cond (x4.2.2.2.2 == x2.2.2.2.2.2)
 (some true)
 (some (decide ((x4.2.2.2.1.length : Int) ≤ x4.2.2.2.2)))) : Option Bool).bind fun x5 =>
 cond x5
 (some (x4.1, x4.2.1, x4.2.2.1, x4.2.2.2.1, x4.2.2.2.2))
 (rc3 (w64 (x2.1 + 1), x4.1, x4.2.1, x4.2.2.1, x4.2.2.2.1, x4.2.2.2.2))))
 (some (x2.2.1, x2.2.2.1, x2.2.2.2.1, x2.2.2.2.2.1, x2.2.2.2.2.2))) F (0, (Tprinter.mk [] [] false (sl a0 1 (a0.length : Int)) 0).fout, (Tprinter.mk [] [] false (sl a0 1 (a0.length : Int)) 0).fmessage, (Tprinter.mk [] [] false (sl a0 1 (a0.length : Int)) 0).fended, (Tprinter.mk [] [] false (sl a0 1 (a0.length : Int)) 0).fargs, (Tprinter.mk [] [] false (sl a0 1 (a0.length : Int)) 0).fused) : Option ((List UInt8) × (List UInt8) × Bool × (List (List UInt8)) × Int)).bind fun x1 =>
 cond (!(x1.2.1 == []))
 (some (x1.1, x1.2.1, 1))
 (some (x1.1, [], 0))))
def ref30_Printf_s : Shp := ⟨9, [.one (.dat (.lst .str))], [], [], ⟨.tup [.dat .str, .dat .str, .dat (.int .i64)], [], [], []⟩, none, []⟩
def ref30_Printf_p : Plan := .seq [] none (.leaf) (.seq [] none (.leaf) (.seq [] none (.leaf) (.seq [] (some (⟨[], [some (.cells 39 [.dat .str, .dat .str, .dat .bool, .dat (.lst .str), .dat (.int .i64)])], [], []⟩, false)) (.seq [] none (.leaf) (.loop [] ⟨[(6, .one (.dat (.int .i64)))], [some (.cells 39 [.dat .str, .dat .str, .dat .bool, .dat (.lst .str), .dat (.int .i64)])], [], []⟩ (.seq [] none (.leaf) (.seq [] none (.seq [] none (.leaf) (.seq [] none (.leaf) (.seq [] none (.draw [⟨true, 24, some ⟨[(53, .one (.dat .bool))], [none], [], []⟩⟩]) (.leaf)))) (.leaf))))) (.seq [] none (.seq [] none (.leaf) (.cond (.seq [] none (.draw [⟨true, 11, none⟩]) (.leaf)) (.leaf))) (.leaf)))))
def ref30_Printf_c (F : Nat) : Ctr E := ⟨ref30_Printf_s, fun (x : List (List UInt8)) => ref30_Printf F x⟩
theorem ref30_Printf_ok (F : Nat) : (ref30_Printf_c F).Ok Tryz.prog := Ctr.ok_of (X := ⟨Tryz.prog, tyT, [ref30_printer_pass_c F]⟩) (F := F) ⟨E_ok, okC (ref30_printer_pass_ok F) (okN), mixed⟩ (pl := ref30_Printf_p) Tryz.func9 (by kernel_rfl) (fun x => by kernel_rfl)
/- jobshell/jobshelllaw30.FormatPrintfs -/
def law30_FormatPrintfs (F : Nat)  (a0 : List (List UInt8)) : Option Bool :=
 (ref03_Short F a0 8 60).bind fun x1 =>
 cond (!x1)
 ((law30_awake 60).bind fun x2 =>
 some x2)
 ((format_Printf F a0).bind fun x3 =>
 (ref30_Printf F a0).bind fun x4 =>
 (cond (x3.1 == x4.1)
 (some (x3.2.1 == x4.2.1))
 (some false) : Option Bool).bind fun x5 =>
 (cond x5
 (some (x3.2.2 == x4.2.2))
 (some false) : Option Bool).bind fun x6 =>
 (cond x6
 ((law30_awake 60).bind fun x8 =>
 some x8)
 (some false) : Option Bool).bind fun x7 =>
 some x7)
def law30_FormatPrintfs_s : Shp := ⟨3, [.one (.dat (.lst .str))], [], [], ⟨.one (.dat .bool), [], [], []⟩, none, []⟩
def law30_FormatPrintfs_p : Plan := .seq [] none (.leaf) (.seq [] none (.leaf) (.seq [] none (.leaf) (.seq [] none (.leaf) (.seq [] none (.region [(8, ⟨[(32, .one (.dat .bool))], [], [], []⟩, false), (5, ⟨[(37, .one (.dat .bool))], [], [], []⟩, false), (3, ⟨[(40, .one (.dat .bool))], [], [], []⟩, false)]) (.leaf)))))
def law30_FormatPrintfs_c (F : Nat) : Ctr E := ⟨law30_FormatPrintfs_s, fun (x : List (List UInt8)) => law30_FormatPrintfs F x⟩
theorem law30_FormatPrintfs_ok (F : Nat) : (law30_FormatPrintfs_c F).Ok Tryz.prog := Ctr.ok_of (X := ⟨Tryz.prog, tyT, [ref03_Short_c F, law30_awake_c 60, format_Printf_c F, ref30_Printf_c F]⟩) (F := F) ⟨E_ok, okC (ref03_Short_ok F) (okC (law30_awake_ok 60) (okC (format_Printf_ok F) (okC (ref30_Printf_ok F) (okN)))), mixed⟩ (pl := law30_FormatPrintfs_p) Tryz.func3 (by kernel_rfl) (fun x => by kernel_rfl)
/- jobshell/jobshellref30.Echo -/
def ref30_Echo (F : Nat)  (a0 : List (List UInt8)) : Option (List UInt8) :=
 ((cond (decide (0 < (a0.length : Int)))
 (rq (decide (0 < (a0.length : Int))) (some ((a0.getD 0 []) == ([45, 110] : List UInt8))))
 (some false) : Option Bool).bind fun x2 =>
 cond x2
 (rq ((decide (1 ≤ (a0.length : Int))) && (decide ((a0.length : Int) ≤ (a0.length : Int)))) (some (sl a0 1 (a0.length : Int), [])))
 (some (a0, ([10] : List UInt8))) : Option ((List (List UInt8)) × (List UInt8))).bind fun x1 =>
 loopF (σ := (List UInt8) × Int) (R := List UInt8) (fun rc4 x3 =>
 cond (decide (x3.2 < (x1.1.length : Int)))
 ((cond (decide (0 < x3.2))
 (rq (decide (x3.1.length + ([32] : List UInt8).length ≤ 9223372036854775807)) (some (x3.1 ++ ([32] : List UInt8))))
 (some x3.1) : Option (List UInt8)).bind fun x5 =>
 rq ((decide (0 ≤ x3.2)) && (decide (x3.2 < (x1.1.length : Int)))) (rq (decide (x5.length + (x1.1.getD (Int.toNat x3.2) []).length ≤ 9223372036854775807)) (rc4 (x5 ++ (x1.1.getD (Int.toNat x3.2) []), w64 (x3.2 + 1)))))
 (rq (decide (x3.1.length + x1.2.length ≤ 9223372036854775807)) (some (x3.1 ++ x1.2)))) F ([], 0)
def ref30_Echo_s : Shp := ⟨11, [.one (.dat (.lst .str))], [], [], ⟨.one (.dat .str), [], [], []⟩, none, []⟩
def ref30_Echo_p : Plan := .seq [] none (.leaf) (.seq [] none (.leaf) (.seq [] (some (⟨[(0, .one (.dat (.lst .str))), (3, .one (.dat .str))], [], [], []⟩, false)) (.seq [] none (.region [(9, ⟨[(14, .one (.dat .bool))], [], [], []⟩, false)]) (.leaf)) (.seq [] none (.leaf) (.seq [] none (.seq [] none (.leaf) (.loop [] ⟨[(4, .one (.dat .str)), (5, .one (.dat (.int .i64)))], [], [], []⟩ (.seq [] none (.leaf) (.seq [] none (.seq [] (some (⟨[(4, .one (.dat .str))], [], [], []⟩, false)) (.leaf) (.leaf)) (.leaf))))) (.leaf)))))
def ref30_Echo_c (F : Nat) : Ctr E := ⟨ref30_Echo_s, fun (x : List (List UInt8)) => ref30_Echo F x⟩
theorem ref30_Echo_ok (F : Nat) : (ref30_Echo_c F).Ok Tryz.prog := Ctr.ok_of (X := ⟨Tryz.prog, tyT, []⟩) (F := F) ⟨E_ok, okN, mixed⟩ (pl := ref30_Echo_p) Tryz.func11 (by kernel_rfl) (fun x => by kernel_rfl)
/- jobshell/jobshelllaw30.FormatEchos -/
def law30_FormatEchos (F : Nat)  (a0 : List (List UInt8)) : Option Bool :=
 (ref03_Short F a0 12 100).bind fun x1 =>
 cond (!x1)
 ((law30_awake 60).bind fun x2 =>
 some x2)
 (((format_Echo F a0).bind fun x4 =>
 (ref30_Echo F a0).bind fun x5 =>
 cond (x4 == x5)
 ((law30_awake 60).bind fun x6 =>
 some x6)
 (some false) : Option Bool).bind fun x3 =>
 some x3)
def law30_FormatEchos_s : Shp := ⟨4, [.one (.dat (.lst .str))], [], [], ⟨.one (.dat .bool), [], [], []⟩, none, []⟩
def law30_FormatEchos_p : Plan := .seq [] none (.leaf) (.seq [] none (.leaf) (.seq [] none (.region [(8, ⟨[(14, .one (.dat .bool))], [], [], []⟩, false)]) (.leaf)))
def law30_FormatEchos_c (F : Nat) : Ctr E := ⟨law30_FormatEchos_s, fun (x : List (List UInt8)) => law30_FormatEchos F x⟩
theorem law30_FormatEchos_ok (F : Nat) : (law30_FormatEchos_c F).Ok Tryz.prog := Ctr.ok_of (X := ⟨Tryz.prog, tyT, [ref03_Short_c F, law30_awake_c 60, format_Echo_c F, ref30_Echo_c F]⟩) (F := F) ⟨E_ok, okC (ref03_Short_ok F) (okC (law30_awake_ok 60) (okC (format_Echo_ok F) (okC (ref30_Echo_ok F) (okN)))), mixed⟩ (pl := law30_FormatEchos_p) Tryz.func4 (by kernel_rfl) (fun x => by kernel_rfl)
/- jobshell/jobshellref06.Number -/
def ref06_Number (F : Nat)  (a0 : List UInt8) : Option (Int × Int) :=
 (ref06_constant F a0).bind fun x1 =>
 ((cond (x1.2 == 0)
 (some (decide (9223372036854775807 < x1.1)))
 (some false) : Option Bool).bind fun x3 =>
 cond x3
 (some 14)
 (some x1.2) : Option Int).bind fun x2 =>
 cond (x2 != 0)
 (some (0, x2))
 (some (w64 x1.1, 0))
def ref06_Number_s : Shp := ⟨13, [.one (.dat .str)], [], [], ⟨.tup [.dat (.int .i64), .dat (.int .i64)], [], [], []⟩, none, []⟩
def ref06_Number_p : Plan := .seq [] none (.leaf) (.seq [] none (.leaf) (.seq [] (some (⟨[(5, .one (.dat (.int .i64)))], [], [], []⟩, false)) (.seq [] none (.region [(6, ⟨[(16, .one (.dat .bool))], [], [], []⟩, false)]) (.leaf)) (.leaf)))
def ref06_Number_c (F : Nat) : Ctr E := ⟨ref06_Number_s, fun (x : List UInt8) => ref06_Number F x⟩
theorem ref06_Number_ok (F : Nat) : (ref06_Number_c F).Ok Tryz.prog := Ctr.ok_of (X := ⟨Tryz.prog, tyT, [ref06_constant_c F]⟩) (F := F) ⟨E_ok, okC (ref06_constant_ok F) (okN), mixed⟩ (pl := ref06_Number_p) Tryz.func13 (by kernel_rfl) (fun x => by kernel_rfl)
/- jobshell/jobshelllaw30.FormatNumbers -/
def law30_FormatNumbers (F : Nat)  (a0 : Int) (a1 : Int) : Option Bool :=
 (ref05_Decimal F a0).bind fun x1 =>
 (format_Printf F ([([37, 100] : List UInt8), x1] : List (List UInt8))).bind fun x2 =>
 (ref05_Decimal F (w64 a1)).bind fun x3 =>
 rq (decide (([37] : List UInt8).length + x3.length ≤ 9223372036854775807)) (rq (decide ((([37] : List UInt8) ++ x3).length + ([105] : List UInt8).length ≤ 9223372036854775807)) ((format_Printf F ([(([37] : List UInt8) ++ x3) ++ ([105] : List UInt8), x1] : List (List UInt8))).bind fun x4 =>
 (cond (!(x2.1 == x1))
 (some true)
 (some (!(x2.2.1 == []))) : Option Bool).bind fun x5 =>
 (cond x5
 (some true)
 (some (x2.2.2 != 0)) : Option Bool).bind fun x6 =>
 (cond x6
 (some true)
 (some ((x4.1.length : Int) != (cond (decide ((x1.length : Int) < w64 a1)) (w64 a1) (x1.length : Int)))) : Option Bool).bind fun x7 =>
 (cond x7
 (some true)
 (rq ((decide (0 ≤ w64 ((x4.1.length : Int) - (x1.length : Int)))) && ((decide (w64 ((x4.1.length : Int) - (x1.length : Int)) ≤ (x4.1.length : Int))) && (decide ((x4.1.length : Int) ≤ (x4.1.length : Int))))) (some (!((sl x4.1 (w64 ((x4.1.length : Int) - (x1.length : Int))) (x4.1.length : Int)) == x1)))) : Option Bool).bind fun x8 =>
 cond x8
 (some false)
 (loopF (σ := Int) (R := Bool) (fun rc10 x9 =>
 cond (decide (x9 < w64 ((x4.1.length : Int) - (x1.length : Int))))
 (rq ((decide (0 ≤ x9)) && (decide (x9 < (x4.1.length : Int)))) (cond (((x4.1.getD (Int.toNat x9) 0).toNat : Int) != 32)
 (some false)
 (rc10 (w64 (x9 + 1)))))
 (cond (decide (a0 < 0))
 ((law30_awake 60).bind fun x11 =>
 some x11)
 ((format_Printf F ([([48, 120, 37, 120] : List UInt8), x1] : List (List UInt8))).bind fun x12 =>
 (format_Printf F ([([48, 37, 111] : List UInt8), x1] : List (List UInt8))).bind fun x13 =>
 (ref06_Number F x12.1).bind fun x14 =>
 (ref06_Number F x13.1).bind fun x15 =>
 (cond (x14.1 == a0)
 (some (x14.2 == 0))
 (some false) : Option Bool).bind fun x16 =>
 (cond x16
 (some (x15.1 == a0))
 (some false) : Option Bool).bind fun x17 =>
 (cond x17
 (some (x15.2 == 0))
 (some false) : Option Bool).bind fun x18 =>
 (cond x18
 ((law30_awake 60).bind fun x20 =>
 some x20)
 (some false) : Option Bool).bind fun x19 =>
 some x19))) F 0)))
def law30_FormatNumbers_s : Shp := ⟨5, [.one (.dat (.int .i64)), .one (.dat (.int .u8))], [], [], ⟨.one (.dat .bool), [], [], []⟩, none, []⟩
def law30_FormatNumbers_p : Plan := .seq [] none (.leaf) (.seq [] none (.leaf) (.seq [] none (.leaf) (.seq [] none (.leaf) (.seq [] none (.seq [] none (.region [(7, ⟨[(50, .one (.dat .bool))], [], [none, none], []⟩, false), (4, ⟨[(54, .one (.dat .bool))], [], [none, none], []⟩, false), (10, ⟨[(64, .one (.dat .bool))], [], [none, none], []⟩, false), (11, ⟨[(75, .one (.dat .bool))], [], [none, none], []⟩, false)]) (.leaf)) (.seq [] none (.seq [] none (.leaf) (.loop [] ⟨[(12, .one (.dat (.int .i64)))], [], [none, none], []⟩ (.leaf))) (.seq [] none (.leaf) (.seq [] none (.leaf) (.seq [] none (.leaf) (.seq [] none (.leaf) (.seq [] none (.leaf) (.seq [] none (.region [(7, ⟨[(122, .one (.dat .bool))], [], [none, none, none, none], []⟩, false), (5, ⟨[(127, .one (.dat .bool))], [], [none, none, none, none], []⟩, false), (4, ⟨[(131, .one (.dat .bool))], [], [none, none, none, none], []⟩, false), (3, ⟨[(134, .one (.dat .bool))], [], [none, none, none, none], []⟩, false)]) (.leaf))))))))))))
def law30_FormatNumbers_c (F : Nat) : Ctr E := ⟨law30_FormatNumbers_s, fun (x : Int × Int) => law30_FormatNumbers F x.1 x.2⟩
theorem law30_FormatNumbers_ok (F : Nat) : (law30_FormatNumbers_c F).Ok Tryz.prog := Ctr.ok_of (X := ⟨Tryz.prog, tyT, [ref05_Decimal_c F, format_Printf_c F, law30_awake_c 60, ref06_Number_c F]⟩) (F := F) ⟨E_ok, okC (ref05_Decimal_ok F) (okC (format_Printf_ok F) (okC (law30_awake_ok 60) (okC (ref06_Number_ok F) (okN)))), mixed⟩ (pl := law30_FormatNumbers_p) Tryz.func5 (by kernel_rfl) (fun x => by kernel_rfl)
end Go.Proofs.YtmcnemjnkiofdaaGreatDoor
