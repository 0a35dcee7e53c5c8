/- models -/
import Derived.Test.YtnbdahlceddihaaDoorTy
namespace Go.Proofs.YtnbdahlceddihaaDoor
open Go.RT
set_option linter.unusedVariables false
set_option maxRecDepth 100000
def indexByteString := ibF
def indexByteString_c (F : Nat) : Ctr E := ibC E 89 F
theorem indexByteString_ok (F : Nat) : (indexByteString_c F).Ok Tryd.prog := ib_ok (fun args w => run_callFunc_extern Tryd.func89 (by kernel_rfl) (by kernel_rfl) (by kernel_rfl) (e := Extern.BytealgIndexByte.indexByte) (by kernel_rfl) args w) F
def noEscape_c (F : Nat) : Ctr E := neC E 97 (.cells 61 [.optr 0 0, .gsl 0 (.int .u8)]) [(5, 1)]
theorem noEscape_ok (F : Nat) : (noEscape_c F).Ok Tryd.prog := ne_ok (fun v w => by rw [run_callFunc_extern Tryd.func97 (by kernel_rfl) (by kernel_rfl) (by kernel_rfl) (e := Extern.AbiNoEscape.same) (by kernel_rfl)]; rfl)
def strconvItoa_c (F : Nat) : Ctr E := itoaC E 61 F
theorem strconvItoa_ok (F : Nat) : (strconvItoa_c F).Ok Tryd.prog := itoa_ok (entersOf Tryd.func61 (by kernel_rfl) (by kernel_rfl)) (fun w G hP => tabIs_of_pins (g := 1) hP (by kernel_rfl) rfl) (fun n h0 h1 w ht => Go.Proofs.Any.strconv_Itoa Tryd.itoaL n h0 h1 w ht) F
/- jobshell/jobshelllaw05.short -/
def law05_short (F : Nat)  (a0 : List UInt8) : Option Bool :=
 (cond (decide ((a0.length : Int) ≤ 120))
 (some true)
 (some (decide (4096 < (a0.length : Int)))) : Option Bool).bind fun x1 =>
 some x1
def law05_short_s : Shp := ⟨10, [.one (.dat .str)], [], [], ⟨.one (.dat .bool), [], []⟩, none⟩
def law05_short_p : Plan := .seq [] none (.leaf) (.seq [] none (.region [(8, ⟨[(10, .one (.dat .bool))], [], []⟩, false)]) (.leaf))
def law05_short_c (F : Nat) : Ctr E := ⟨law05_short_s, fun (x : List UInt8) => law05_short F x⟩
theorem law05_short_ok (F : Nat) : (law05_short_c F).Ok Tryd.prog := Ctr.ok_of (X := ⟨Tryd.prog, tyT, []⟩) (F := F) ⟨E_ok, okN, mixed⟩ (pl := law05_short_p) Tryd.func10 (by kernel_rfl) (fun x => by kernel_rfl)
/- jobshell/arith.space -/
def arith_space (F : Nat)  (a0 : Int) : Option Bool :=
 (cond (a0 == 9)
 (some true)
 (some (a0 == 10)) : Option Bool).bind fun x1 =>
 (cond x1
 (some true)
 (some (a0 == 32)) : Option Bool).bind fun x2 =>
 some x2
def arith_space_s : Shp := ⟨43, [.one (.dat (.int .u8))], [], [], ⟨.one (.dat .bool), [], []⟩, none⟩
def arith_space_p : Plan := .seq [] none (.leaf) (.seq [] none (.region [(6, ⟨[(8, .one (.dat .bool))], [], []⟩, false), (4, ⟨[(12, .one (.dat .bool))], [], []⟩, false)]) (.leaf))
def arith_space_c (F : Nat) : Ctr E := ⟨arith_space_s, fun (x : Int) => arith_space F x⟩
theorem arith_space_ok (F : Nat) : (arith_space_c F).Ok Tryd.prog := Ctr.ok_of (X := ⟨Tryd.prog, tyT, []⟩) (F := F) ⟨E_ok, okN, mixed⟩ (pl := arith_space_p) Tryd.func43 (by kernel_rfl) (fun x => by kernel_rfl)
/- jobshell/arith.follows -/
def arith_follows (F : Nat)  (a0 : Int) : Option Bool :=
 (cond (a0 == 95)
 (some true)
 (cond (decide (48 ≤ a0))
 (some (decide (a0 ≤ 57)))
 (some false)) : Option Bool).bind fun x1 =>
 (cond x1
 (some true)
 (cond (decide (65 ≤ a0))
 (some (decide (a0 ≤ 90)))
 (some false)) : Option Bool).bind fun x2 =>
 (cond x2
 (some true)
 (cond (decide (97 ≤ a0))
 (some (decide (a0 ≤ 122)))
 (some false)) : Option Bool).bind fun x3 =>
 some x3
def arith_follows_s : Shp := ⟨44, [.one (.dat (.int .u8))], [], [], ⟨.one (.dat .bool), [], []⟩, none⟩
def arith_follows_p : Plan := .seq [] none (.leaf) (.seq [] none (.region [(10, ⟨[(12, .one (.dat .bool))], [], []⟩, false), (8, ⟨[(20, .one (.dat .bool))], [], []⟩, false), (8, ⟨[(28, .one (.dat .bool))], [], []⟩, false)]) (.leaf))
def arith_follows_c (F : Nat) : Ctr E := ⟨arith_follows_s, fun (x : Int) => arith_follows F x⟩
theorem arith_follows_ok (F : Nat) : (arith_follows_c F).Ok Tryd.prog := Ctr.ok_of (X := ⟨Tryd.prog, tyT, []⟩) (F := F) ⟨E_ok, okN, mixed⟩ (pl := arith_follows_p) Tryd.func44 (by kernel_rfl) (fun x => by kernel_rfl)
/- internal/stringslite.HasPrefix -/
def stringslite_HasPrefix (F : Nat)  (a0 : List UInt8) (a1 : List UInt8) : Option Bool :=
 (cond (decide ((a1.length : Int) ≤ (a0.length : Int)))
 (rq ((decide (0 ≤ (a1.length : Int))) && (decide ((a1.length : Int) ≤ (a0.length : Int)))) (some ((sl a0 0 (a1.length : Int)) == a1)))
 (some false) : Option Bool).bind fun x1 =>
 some x1
def stringslite_HasPrefix_s : Shp := ⟨70, [.one (.dat .str), .one (.dat .str)], [], [], ⟨.one (.dat .bool), [], []⟩, none⟩
def stringslite_HasPrefix_p : Plan := .seq [] none (.leaf) (.seq [] none (.region [(13, ⟨[(17, .one (.dat .bool))], [], []⟩, false)]) (.leaf))
def stringslite_HasPrefix_c (F : Nat) : Ctr E := ⟨stringslite_HasPrefix_s, fun (x : (List UInt8) × (List UInt8)) => stringslite_HasPrefix F x.1 x.2⟩
theorem stringslite_HasPrefix_ok (F : Nat) : (stringslite_HasPrefix_c F).Ok Tryd.prog := Ctr.ok_of (X := ⟨Tryd.prog, tyT, []⟩) (F := F) ⟨E_ok, okN, mixed⟩ (pl := stringslite_HasPrefix_p) Tryd.func70 (by kernel_rfl) (fun x => by kernel_rfl)
/- strings.HasPrefix -/
def strings_HasPrefix (F : Nat)  (a0 : List UInt8) (a1 : List UInt8) : Option Bool :=
 (stringslite_HasPrefix F a0 a1).bind fun x1 =>
 some x1
def strings_HasPrefix_s : Shp := ⟨45, [.one (.dat .str), .one (.dat .str)], [], [], ⟨.one (.dat .bool), [], []⟩, none⟩
def strings_HasPrefix_p : Plan := .leaf
def strings_HasPrefix_c (F : Nat) : Ctr E := ⟨strings_HasPrefix_s, fun (x : (List UInt8) × (List UInt8)) => strings_HasPrefix F x.1 x.2⟩
theorem strings_HasPrefix_ok (F : Nat) : (strings_HasPrefix_c F).Ok Tryd.prog := Ctr.ok_of (X := ⟨Tryd.prog, tyT, [stringslite_HasPrefix_c F]⟩) (F := F) ⟨E_ok, okC (stringslite_HasPrefix_ok F) (okN), mixed⟩ (pl := strings_HasPrefix_p) Tryd.func45 (by kernel_rfl) (fun x => by kernel_rfl)
/- internal/stringslite.IndexByte -/
def stringslite_IndexByte (F : Nat)  (a0 : List UInt8) (a1 : Int) : Option Int :=
 (indexByteString F a0 a1).bind fun x1 =>
 some x1
def stringslite_IndexByte_s : Shp := ⟨71, [.one (.dat .str), .one (.dat (.int .u8))], [], [], ⟨.one (.dat (.int .i64)), [], []⟩, none⟩
def stringslite_IndexByte_p : Plan := .leaf
def stringslite_IndexByte_c (F : Nat) : Ctr E := ⟨stringslite_IndexByte_s, fun (x : (List UInt8) × Int) => stringslite_IndexByte F x.1 x.2⟩
theorem stringslite_IndexByte_ok (F : Nat) : (stringslite_IndexByte_c F).Ok Tryd.prog := Ctr.ok_of (X := ⟨Tryd.prog, tyT, [indexByteString_c F]⟩) (F := F) ⟨E_ok, okC (indexByteString_ok F) (okN), mixed⟩ (pl := stringslite_IndexByte_p) Tryd.func71 (by kernel_rfl) (fun x => by kernel_rfl)
/- strings.IndexByte -/
def strings_IndexByte (F : Nat)  (a0 : List UInt8) (a1 : Int) : Option Int :=
 (stringslite_IndexByte F a0 a1).bind fun x1 =>
 some x1
def strings_IndexByte_s : Shp := ⟨46, [.one (.dat .str), .one (.dat (.int .u8))], [], [], ⟨.one (.dat (.int .i64)), [], []⟩, none⟩
def strings_IndexByte_p : Plan := .leaf
def strings_IndexByte_c (F : Nat) : Ctr E := ⟨strings_IndexByte_s, fun (x : (List UInt8) × Int) => strings_IndexByte F x.1 x.2⟩
theorem strings_IndexByte_ok (F : Nat) : (strings_IndexByte_c F).Ok Tryd.prog := Ctr.ok_of (X := ⟨Tryd.prog, tyT, [stringslite_IndexByte_c F]⟩) (F := F) ⟨E_ok, okC (stringslite_IndexByte_ok F) (okN), mixed⟩ (pl := strings_IndexByte_p) Tryd.func46 (by kernel_rfl) (fun x => by kernel_rfl)
/- jobshell/arith.scan -/
def arith_scan (F : Nat)  (a0 : List UInt8) (a1 : Int) : Option Ttoken :=
 loopF (σ := Int) (R := Ttoken) (fun rc2 x1 =>
 (cond (decide (x1 < (a0.length : Int)))
 (rq ((decide (0 ≤ x1)) && (decide (x1 < (a0.length : Int)))) ((arith_space F ((a0.getD (Int.toNat x1) 0).toNat : Int)).bind fun x4 =>
 some x4))
 (some false) : Option Bool).bind fun x3 =>
 cond x3
 (rc2 (w64 (x1 + 1)))
 (cond (x1 == (a0.length : Int))
 (some (Ttoken.mk 0 x1 []))
 (rq ((decide (0 ≤ x1)) && (decide (x1 < (a0.length : Int)))) ((arith_follows F ((a0.getD (Int.toNat x1) 0).toNat : Int)).bind fun x5 =>
 cond x5
 (loopF (σ := Int) (R := Ttoken) (fun rc7 x6 =>
 (cond (decide (x6 < (a0.length : Int)))
 (rq ((decide (0 ≤ x6)) && (decide (x6 < (a0.length : Int)))) ((arith_follows F ((a0.getD (Int.toNat x6) 0).toNat : Int)).bind fun x9 =>
 some x9))
 (some false) : Option Bool).bind fun x8 =>
 cond x8
 (rc7 (w64 (x6 + 1)))
 ((rq ((decide (0 ≤ x1)) && (decide (x1 < (a0.length : Int)))) (cond (decide (48 ≤ ((a0.getD (Int.toNat x1) 0).toNat : Int)))
 (rq ((decide (0 ≤ x1)) && (decide (x1 < (a0.length : Int)))) (some (decide (((a0.getD (Int.toNat x1) 0).toNat : Int) ≤ 57))))
 (some false)) : Option Bool).bind fun x10 =>
 cond x10
 (rq ((decide (0 ≤ x1)) && ((decide (x1 ≤ x6)) && (decide (x6 ≤ (a0.length : Int))))) (some (Ttoken.mk 1 x1 (sl a0 x1 x6))))
 (rq ((decide (0 ≤ x1)) && ((decide (x1 ≤ x6)) && (decide (x6 ≤ (a0.length : Int))))) (some (Ttoken.mk 2 x1 (sl a0 x1 x6)))))) F (w64 (x1 + 1)))
 (loopF (σ := Int) (R := Ttoken) (fun rc12 x11 =>
 cond (decide (x11 < (([([60, 60, 61] : List UInt8), ([62, 62, 61] : List UInt8), ([60, 60] : List UInt8), ([62, 62] : List UInt8), ([60, 61] : List UInt8), ([62, 61] : List UInt8), ([61, 61] : List UInt8), ([33, 61] : List UInt8), ([38, 38] : List UInt8), ([124, 124] : List UInt8), ([43, 61] : List UInt8), ([45, 61] : List UInt8), ([42, 61] : List UInt8), ([47, 61] : List UInt8), ([37, 61] : List UInt8), ([38, 61] : List UInt8), ([94, 61] : List UInt8), ([124, 61] : List UInt8)] : List (List UInt8)).length : Int)))
 (rq ((decide (0 ≤ x11)) && (decide (x11 < (([([60, 60, 61] : List UInt8), ([62, 62, 61] : List UInt8), ([60, 60] : List UInt8), ([62, 62] : List UInt8), ([60, 61] : List UInt8), ([62, 61] : List UInt8), ([61, 61] : List UInt8), ([33, 61] : List UInt8), ([38, 38] : List UInt8), ([124, 124] : List UInt8), ([43, 61] : List UInt8), ([45, 61] : List UInt8), ([42, 61] : List UInt8), ([47, 61] : List UInt8), ([37, 61] : List UInt8), ([38, 61] : List UInt8), ([94, 61] : List UInt8), ([124, 61] : List UInt8)] : List (List UInt8)).length : Int)))) (rq ((decide (0 ≤ x1)) && ((decide (x1 ≤ (a0.length : Int))) && (decide ((a0.length : Int) ≤ (a0.length : Int))))) ((strings_HasPrefix F (sl a0 x1 (a0.length : Int)) (([([60, 60, 61] : List UInt8), ([62, 62, 61] : List UInt8), ([60, 60] : List UInt8), ([62, 62] : List UInt8), ([60, 61] : List UInt8), ([62, 61] : List UInt8), ([61, 61] : List UInt8), ([33, 61] : List UInt8), ([38, 38] : List UInt8), ([124, 124] : List UInt8), ([43, 61] : List UInt8), ([45, 61] : List UInt8), ([42, 61] : List UInt8), ([47, 61] : List UInt8), ([37, 61] : List UInt8), ([38, 61] : List UInt8), ([94, 61] : List UInt8), ([124, 61] : List UInt8)] : List (List UInt8)).getD (Int.toNat x11) [])).bind fun x13 =>
 cond x13
 (some (Ttoken.mk 3 x1 (([([60, 60, 61] : List UInt8), ([62, 62, 61] : List UInt8), ([60, 60] : List UInt8), ([62, 62] : List UInt8), ([60, 61] : List UInt8), ([62, 61] : List UInt8), ([61, 61] : List UInt8), ([33, 61] : List UInt8), ([38, 38] : List UInt8), ([124, 124] : List UInt8), ([43, 61] : List UInt8), ([45, 61] : List UInt8), ([42, 61] : List UInt8), ([47, 61] : List UInt8), ([37, 61] : List UInt8), ([38, 61] : List UInt8), ([94, 61] : List UInt8), ([124, 61] : List UInt8)] : List (List UInt8)).getD (Int.toNat x11) [])))
 (rc12 (w64 (x11 + 1))))))
 (rq ((decide (0 ≤ x1)) && (decide (x1 < (a0.length : Int)))) ((strings_IndexByte F ([61, 63, 58, 124, 94, 38, 60, 62, 43, 45, 42, 47, 37, 33, 126, 40, 41] : List UInt8) ((a0.getD (Int.toNat x1) 0).toNat : Int)).bind fun x14 =>
 cond (decide (0 ≤ x14))
 (rq ((decide (0 ≤ x1)) && ((decide (x1 ≤ w64 (x1 + 1))) && (decide (w64 (x1 + 1) ≤ (a0.length : Int))))) (some (Ttoken.mk 3 x1 (sl a0 x1 (w64 (x1 + 1))))))
 (rq ((decide (0 ≤ x1)) && ((decide (x1 ≤ w64 (x1 + 1))) && (decide (w64 (x1 + 1) ≤ (a0.length : Int))))) (some (Ttoken.mk 4 x1 (sl a0 x1 (w64 (x1 + 1))))))))) F 0))))) F a1
def arith_scan_s : Shp := ⟨25, [.one (.dat .str), .one (.dat (.int .i64))], [], [], ⟨.one (.dat (.ext 2)), [], []⟩, none⟩
def arith_scan_p : Plan := .seq [] none (.leaf) (.seq [] none (.loop [] ⟨[(1, .one (.dat (.int .i64)))], [none], []⟩ (.seq [] none (.seq [] none (.region [(10, ⟨[(18, .one (.dat .bool))], [none], []⟩, false)]) (.leaf)) (.leaf))) (.seq [] none (.leaf) (.seq [] none (.seq [] none (.leaf) (.cond (.seq [] none (.leaf) (.seq [] none (.loop [] ⟨[(5, .one (.dat (.int .i64)))], [none], []⟩ (.seq [] none (.seq [] none (.region [(10, ⟨[(42, .one (.dat .bool))], [none], []⟩, false)]) (.leaf)) (.leaf))) (.seq [] none (.seq [] none (.region [(10, ⟨[(54, .one (.dat .bool))], [none], []⟩, false)]) (.leaf)) (.leaf)))) (.leaf))) (.seq [] none (.leaf) (.seq [] none (.seq [] none (.leaf) (.loop [] ⟨[(70, .one (.dat (.int .i64)))], [none], [none]⟩ (.leaf))) (.leaf))))))
def arith_scan_c (F : Nat) : Ctr E := ⟨arith_scan_s, fun (x : (List UInt8) × Int) => arith_scan F x.1 x.2⟩
theorem arith_scan_ok (F : Nat) : (arith_scan_c F).Ok Tryd.prog := Ctr.ok_of (X := ⟨Tryd.prog, tyT, [arith_space_c F, arith_follows_c F, strings_HasPrefix_c F, strings_IndexByte_c F]⟩) (F := F) ⟨E_ok, okC (arith_space_ok F) (okC (arith_follows_ok F) (okC (strings_HasPrefix_ok F) (okC (strings_IndexByte_ok F) (okN)))), mixed⟩ (pl := arith_scan_p) Tryd.func25 (by kernel_rfl) (fun x => by kernel_rfl)
/- (*jobshell/arith.parser).sees -/
def arith_parser_sees (F : Nat)  (a0 : List UInt8) (a1 : List UInt8) (a2 : Int) (a3 : Int) (a4 : List UInt8) : Option Bool :=
 (cond (a2 == 3)
 (some (a4 == a0))
 (some false) : Option Bool).bind fun x1 =>
 some x1
def arith_parser_sees_s : Shp := ⟨73, [.one (.ptr 0 0), .one (.dat .str)], [.cells 51 [.dat .str, .dat (.int .i64), .dat (.int .i64), .dat .str]], [], ⟨.one (.dat .bool), [none], []⟩, none⟩
def arith_parser_sees_p : Plan := .seq [] none (.leaf) (.seq [] none (.region [(15, ⟨[(19, .one (.dat .bool))], [none], []⟩, false)]) (.leaf))
def arith_parser_sees_c (F : Nat) : Ctr E := ⟨arith_parser_sees_s, fun (x : (List UInt8) × (List UInt8) × Int × Int × (List UInt8)) => arith_parser_sees F x.1 x.2.1 x.2.2.1 x.2.2.2.1 x.2.2.2.2⟩
theorem arith_parser_sees_ok (F : Nat) : (arith_parser_sees_c F).Ok Tryd.prog := Ctr.ok_of (X := ⟨Tryd.prog, tyT, []⟩) (F := F) ⟨E_ok, okN, mixed⟩ (pl := arith_parser_sees_p) Tryd.func73 (by kernel_rfl) (fun x => by kernel_rfl)
/- jobshell/arith.lower -/
def arith_lower (F : Nat)  (a0 : Int) : Option Int :=
 (cond (decide (65 ≤ a0))
 (some (decide (a0 ≤ 90)))
 (some false) : Option Bool).bind fun x1 =>
 cond x1
 (some 32)
 (some 0)
def arith_lower_s : Shp := ⟨112, [.one (.dat (.int .u8))], [], [], ⟨.one (.dat (.int .u8)), [], []⟩, none⟩
def arith_lower_p : Plan := .seq [] none (.leaf) (.seq [] none (.seq [] none (.region [(6, ⟨[(8, .one (.dat .bool))], [], []⟩, false)]) (.leaf)) (.leaf))
def arith_lower_c (F : Nat) : Ctr E := ⟨arith_lower_s, fun (x : Int) => arith_lower F x⟩
theorem arith_lower_ok (F : Nat) : (arith_lower_c F).Ok Tryd.prog := Ctr.ok_of (X := ⟨Tryd.prog, tyT, []⟩) (F := F) ⟨E_ok, okN, mixed⟩ (pl := arith_lower_p) Tryd.func112 (by kernel_rfl) (fun x => by kernel_rfl)
/- jobshell/arith.value -/
def arith_value (F : Nat)  (a0 : List UInt8) : Option (Int × Int) :=
 (((strings_HasPrefix F a0 ([48, 120] : List UInt8)).bind fun x3 =>
 cond x3
 (some true)
 ((strings_HasPrefix F a0 ([48, 88] : List UInt8)).bind fun x4 =>
 some x4) : Option Bool).bind fun x2 =>
 cond x2
 (rq ((decide (2 ≤ (a0.length : Int))) && (decide ((a0.length : Int) ≤ (a0.length : Int)))) (some (16, sl a0 2 (a0.length : Int))))
 (rq (decide (0 < (a0.length : Int))) (cond (((a0.getD 0 0).toNat : Int) == 48)
 (some (8, a0))
 (some (10, a0)))) : Option (Int × (List UInt8))).bind fun x1 =>
 cond (x1.2 == [])
 (some (0, 6))
 (loopF (σ := Int × Bool × Int) (R := Int × Int) (fun rc6 x5 =>
 cond (decide (x5.2.2 < (x1.2.length : Int)))
 (rq ((decide (0 ≤ x5.2.2)) && (decide (x5.2.2 < (x1.2.length : Int)))) (rq ((decide (0 ≤ x5.2.2)) && (decide (x5.2.2 < (x1.2.length : Int)))) ((arith_lower F ((x1.2.getD (Int.toNat x5.2.2) 0).toNat : Int)).bind fun x7 =>
 (strings_IndexByte F ([48, 49, 50, 51, 52, 53, 54, 55, 56, 57, 97, 98, 99, 100, 101, 102] : List UInt8) (bOr .u8 ((x1.2.getD (Int.toNat x5.2.2) 0).toNat : Int) x7)).bind fun x8 =>
 (cond (decide (x8 < 0))
 (some true)
 (some (decide (x1.1 ≤ x8))) : Option Bool).bind fun x9 =>
 cond x9
 (some (0, 6))
 ((cond x5.2.1
 (some true)
 (rq (!(x1.1 == 0)) (some (decide (w64 (Int.tdiv (w64 (9223372036854775807 - x8)) x1.1) < x5.1)))) : Option Bool).bind fun x10 =>
 cond x10
 (rc6 (x5.1, true, w64 (x5.2.2 + 1)))
 (rc6 (w64 ((w64 (x5.1 * x1.1)) + x8), x5.2.1, w64 (x5.2.2 + 1)))))))
 (cond x5.2.1
 (some (0, 14))
 (some (x5.1, 0)))) F (0, false, 0))
def arith_value_s : Shp := ⟨105, [.one (.dat .str)], [], [], ⟨.tup [.dat (.int .i64), .dat (.int .i64)], [], []⟩, none⟩
def arith_value_p : Plan := .seq [] none (.leaf) (.seq [] none (.leaf) (.seq [] (some (⟨[(4, .one (.dat (.int .i64))), (5, .one (.dat .str))], [], []⟩, false)) (.seq [] none (.region [(6, ⟨[(17, .one (.dat .bool))], [], []⟩, false)]) (.cond (.draw [⟨true, 4, none⟩]) (.leaf))) (.seq [] none (.leaf) (.seq [] none (.leaf) (.seq [] none (.seq [] none (.leaf) (.loop [] ⟨[(6, .one (.dat (.int .i64))), (7, .one (.dat .bool)), (8, .one (.dat (.int .i64)))], [], []⟩ (.seq [] none (.leaf) (.seq [] none (.seq [] none (.draw [⟨true, 6, none⟩, ⟨false, 4, none⟩]) (.seq [] none (.seq [] none (.region [(7, ⟨[(47, .one (.dat .bool))], [], []⟩, false)]) (.leaf)) (.seq [] none (.seq [] none (.region [(9, ⟨[(56, .one (.dat .bool))], [], []⟩, false)]) (.leaf)) (.leaf)))) (.leaf))))) (.leaf))))))
def arith_value_c (F : Nat) : Ctr E := ⟨arith_value_s, fun (x : List UInt8) => arith_value F x⟩
theorem arith_value_ok (F : Nat) : (arith_value_c F).Ok Tryd.prog := Ctr.ok_of (X := ⟨Tryd.prog, tyT, [strings_HasPrefix_c F, arith_lower_c F, strings_IndexByte_c F]⟩) (F := F) ⟨E_ok, okC (strings_HasPrefix_ok F) (okC (arith_lower_ok F) (okC (strings_IndexByte_ok F) (okN))), mixed⟩ (pl := arith_value_p) Tryd.func105 (by kernel_rfl) (fun x => by kernel_rfl)
/- (*jobshell/arith.parser).after -/
def arith_parser_after (F : Nat)  (a0 : List UInt8) (a1 : Int) (a2 : Int) (a3 : List UInt8) : Option Ttoken :=
 (arith_scan F a0 (w64 (a2 + (a3.length : Int)))).bind fun x1 =>
 some x1
def arith_parser_after_s : Shp := ⟨49, [.one (.ptr 0 0)], [.cells 51 [.dat .str, .dat (.int .i64), .dat (.int .i64), .dat .str]], [], ⟨.one (.dat (.ext 2)), [none], []⟩, none⟩
def arith_parser_after_p : Plan := .seq [] none (.leaf) (.seq [] none (.draw [⟨true, 16, none⟩, ⟨false, 2, none⟩]) (.leaf))
def arith_parser_after_c (F : Nat) : Ctr E := ⟨arith_parser_after_s, fun (x : (List UInt8) × Int × Int × (List UInt8)) => arith_parser_after F x.1 x.2.1 x.2.2.1 x.2.2.2⟩
theorem arith_parser_after_ok (F : Nat) : (arith_parser_after_c F).Ok Tryd.prog := Ctr.ok_of (X := ⟨Tryd.prog, tyT, [arith_scan_c F]⟩) (F := F) ⟨E_ok, okC (arith_scan_ok F) (okN), mixed⟩ (pl := arith_parser_after_p) Tryd.func49 (by kernel_rfl) (fun x => by kernel_rfl)
/- (*jobshell/arith.parser).advance -/
def arith_parser_advance (F : Nat)  (a0 : List UInt8) (a1 : Int) (a2 : Int) (a3 : List UInt8) : Option ((List UInt8) × Int × Int × (List UInt8)) :=
 (arith_parser_after F a0 a1 a2 a3).bind fun x1 =>
 some (a0, x1.fkind, x1.fpos, x1.ftext)
def arith_parser_advance_s : Shp := ⟨51, [.one (.ptr 0 0)], [.cells 51 [.dat .str, .dat (.int .i64), .dat (.int .i64), .dat .str]], [], ⟨.tup [], [some (.cells 51 [.dat .str, .dat (.int .i64), .dat (.int .i64), .dat .str])], []⟩, none⟩
def arith_parser_advance_p : Plan := .leaf
def arith_parser_advance_c (F : Nat) : Ctr E := ⟨arith_parser_advance_s, fun (x : (List UInt8) × Int × Int × (List UInt8)) => arith_parser_advance F x.1 x.2.1 x.2.2.1 x.2.2.2⟩
theorem arith_parser_advance_ok (F : Nat) : (arith_parser_advance_c F).Ok Tryd.prog := Ctr.ok_of (X := ⟨Tryd.prog, tyT, [arith_parser_after_c F]⟩) (F := F) ⟨E_ok, okC (arith_parser_after_ok F) (okN), mixed⟩ (pl := arith_parser_advance_p) Tryd.func51 (by kernel_rfl) (fun x => by kernel_rfl)
/- jobshell/chars.letter -/
def chars_letter (F : Nat)  (a0 : Int) : Option Bool :=
 (cond (decide (65 ≤ a0))
 (some (decide (a0 ≤ 90)))
 (some false) : Option Bool).bind fun x1 =>
 (cond x1
 (some true)
 (cond (decide (97 ≤ a0))
 (some (decide (a0 ≤ 122)))
 (some false)) : Option Bool).bind fun x2 =>
 some x2
def chars_letter_s : Shp := ⟨87, [.one (.dat (.int .i32))], [], [], ⟨.one (.dat .bool), [], []⟩, none⟩
def chars_letter_p : Plan := .seq [] none (.leaf) (.seq [] none (.region [(6, ⟨[(8, .one (.dat .bool))], [], []⟩, false), (8, ⟨[(16, .one (.dat .bool))], [], []⟩, false)]) (.leaf))
def chars_letter_c (F : Nat) : Ctr E := ⟨chars_letter_s, fun (x : Int) => chars_letter F x⟩
theorem chars_letter_ok (F : Nat) : (chars_letter_c F).Ok Tryd.prog := Ctr.ok_of (X := ⟨Tryd.prog, tyT, []⟩) (F := F) ⟨E_ok, okN, mixed⟩ (pl := chars_letter_p) Tryd.func87 (by kernel_rfl) (fun x => by kernel_rfl)
/- jobshell/chars.digit -/
def chars_digit (F : Nat)  (a0 : Int) : Option Bool :=
 (cond (decide (48 ≤ a0))
 (some (decide (a0 ≤ 57)))
 (some false) : Option Bool).bind fun x1 =>
 some x1
def chars_digit_s : Shp := ⟨88, [.one (.dat (.int .i32))], [], [], ⟨.one (.dat .bool), [], []⟩, none⟩
def chars_digit_p : Plan := .seq [] none (.leaf) (.seq [] none (.region [(6, ⟨[(8, .one (.dat .bool))], [], []⟩, false)]) (.leaf))
def chars_digit_c (F : Nat) : Ctr E := ⟨chars_digit_s, fun (x : Int) => chars_digit F x⟩
theorem chars_digit_ok (F : Nat) : (chars_digit_c F).Ok Tryd.prog := Ctr.ok_of (X := ⟨Tryd.prog, tyT, []⟩) (F := F) ⟨E_ok, okN, mixed⟩ (pl := chars_digit_p) Tryd.func88 (by kernel_rfl) (fun x => by kernel_rfl)
/- jobshell/chars.Name -/
def chars_Name (F : Nat)  (a0 : List UInt8) : Option Bool :=
 (cond (decide ((a0.length : Int) < 1))
 (some true)
 (some (decide (32 < (a0.length : Int)))) : Option Bool).bind fun x1 =>
 cond x1
 (some false)
 (loopF (σ := (List UInt8) × Int) (R := Bool) (fun rc3 x2 =>
 cond (Nat.blt (Int.toNat x2.2) x2.1.length)
 (((chars_letter F ((dec x2.1 (Int.toNat x2.2)).1 : Int)).bind fun x5 =>
 cond x5
 (some true)
 (some (((dec x2.1 (Int.toNat x2.2)).1 : Int) == 95)) : Option Bool).bind fun x4 =>
 (cond x4
 (some true)
 ((chars_digit F ((dec x2.1 (Int.toNat x2.2)).1 : Int)).bind fun x7 =>
 cond x7
 (some (decide (0 < (((Int.toNat x2.2) : Nat) : Int))))
 (some false)) : Option Bool).bind fun x6 =>
 cond x6
 (rc3 (x2.1, ((((Int.toNat x2.2) + (dec x2.1 (Int.toNat x2.2)).2) : Nat) : Int)))
 (some false))
 (some true)) F (a0, ((0 : Nat) : Int)))
def chars_Name_s : Shp := ⟨67, [.one (.dat .str)], [], [], ⟨.one (.dat .bool), [], []⟩, none⟩
def chars_Name_p : Plan := .seq [] none (.leaf) (.seq [] none (.seq [] none (.region [(8, ⟨[(12, .one (.dat .bool))], [], []⟩, false)]) (.leaf)) (.seq [] none (.seq [] none (.leaf) (.loop [] ⟨[], [some (.iter)], []⟩ (.seq [] none (.leaf) (.seq [] none (.leaf) (.seq [] none (.leaf) (.seq [] none (.seq [] none (.region [(6, ⟨[(24, .one (.dat .bool))], [none], []⟩, false), (8, ⟨[(32, .one (.dat .bool))], [none], []⟩, false)]) (.leaf)) (.leaf))))))) (.leaf)))
def chars_Name_c (F : Nat) : Ctr E := ⟨chars_Name_s, fun (x : List UInt8) => chars_Name F x⟩
theorem chars_Name_ok (F : Nat) : (chars_Name_c F).Ok Tryd.prog := Ctr.ok_of (X := ⟨Tryd.prog, tyT, [chars_letter_c F, chars_digit_c F]⟩) (F := F) ⟨E_ok, okC (chars_letter_ok F) (okC (chars_digit_ok F) (okN)), mixed⟩ (pl := chars_Name_p) Tryd.func67 (by kernel_rfl) (fun x => by kernel_rfl)
/- (*jobshell/arith.parser).variable -/
def arith_parser_variable (F : Nat)  (a0 : List UInt8) (a1 : Int) (a2 : Int) (a3 : List UInt8) : Option (((List UInt8) × (List UInt8) × Int × Int × (List UInt8)) ⊕ Tfault) :=
 (chars_Name F a3).bind fun x1 =>
 cond (!x1)
 (some (.inr (Tfault.mk a2 10)))
 ((arith_parser_advance F a0 a1 a2 a3).bind fun x2 =>
 some (.inl (a3, x2.1, x2.2.1, x2.2.2.1, x2.2.2.2)))
def arith_parser_variable_s : Shp := ⟨50, [.one (.ptr 0 0)], [.cells 51 [.dat .str, .dat (.int .i64), .dat (.int .i64), .dat .str]], [], ⟨.one (.dat .str), [some (.cells 51 [.dat .str, .dat (.int .i64), .dat (.int .i64), .dat .str])], []⟩, some ⟨.one (.iface 44 (.ext 1)), [none], []⟩⟩
def arith_parser_variable_p : Plan := .leaf
def arith_parser_variable_c (F : Nat) : Ctr E := ⟨arith_parser_variable_s, fun (x : (List UInt8) × Int × Int × (List UInt8)) => arith_parser_variable F x.1 x.2.1 x.2.2.1 x.2.2.2⟩
theorem arith_parser_variable_ok (F : Nat) : (arith_parser_variable_c F).Ok Tryd.prog := Ctr.ok_of (X := ⟨Tryd.prog, tyT, [chars_Name_c F, arith_parser_advance_c F]⟩) (F := F) ⟨E_ok, okC (chars_Name_ok F) (okC (arith_parser_advance_ok F) (okN)), mixed⟩ (pl := arith_parser_variable_p) Tryd.func50 (by kernel_rfl) (fun x => by kernel_rfl)
/- (*jobshell/arith.parser).reject -/
def arith_parser_reject (F : Nat)  (a0 : List UInt8) (a1 : Int) (a2 : Int) (a3 : List UInt8) : Option (Unit ⊕ Tfault) :=
 some (.inr (Tfault.mk a2 6))
def arith_parser_reject_s : Shp := ⟨27, [.one (.ptr 0 0)], [.cells 51 [.dat .str, .dat (.int .i64), .dat (.int .i64), .dat .str]], [], ⟨.one (.any), [none], []⟩, some ⟨.one (.iface 44 (.ext 1)), [none], []⟩⟩
def arith_parser_reject_p : Plan := .leaf
def arith_parser_reject_c (F : Nat) : Ctr E := ⟨arith_parser_reject_s, fun (x : (List UInt8) × Int × Int × (List UInt8)) => arith_parser_reject F x.1 x.2.1 x.2.2.1 x.2.2.2⟩
theorem arith_parser_reject_ok (F : Nat) : (arith_parser_reject_c F).Ok Tryd.prog := Ctr.ok_of (X := ⟨Tryd.prog, tyT, []⟩) (F := F) ⟨E_ok, okN, mixed⟩ (pl := arith_parser_reject_p) Tryd.func27 (by kernel_rfl) (fun x => by kernel_rfl)
/- (*jobshell/arith.parser).expect -/
def arith_parser_expect (F : Nat)  (a0 : List UInt8) (a1 : List UInt8) (a2 : Int) (a3 : Int) (a4 : List UInt8) : Option (((List UInt8) × Int × Int × (List UInt8)) ⊕ Tfault) :=
 jj (σ := Unit) (R := ((List UInt8) × Int × Int × (List UInt8)) ⊕ Tfault) ((arith_parser_sees F a0 a1 a2 a3 a4).bind fun x2 =>
 cond (!x2)
 ((arith_parser_reject F a1 a2 a3 a4).bind (sm (fun _ =>
 some (.inl ())) (fun x4 => some (.inr (.inr x4)))))
 (some (.inl ()))) fun _ =>
 (arith_parser_advance F a1 a2 a3 a4).bind fun x5 =>
 some (.inl (x5.1, x5.2.1, x5.2.2.1, x5.2.2.2))
def arith_parser_expect_s : Shp := ⟨74, [.one (.ptr 0 0), .one (.dat .str)], [.cells 51 [.dat .str, .dat (.int .i64), .dat (.int .i64), .dat .str]], [], ⟨.tup [], [some (.cells 51 [.dat .str, .dat (.int .i64), .dat (.int .i64), .dat .str])], []⟩, some ⟨.one (.iface 44 (.ext 1)), [none], []⟩⟩
def arith_parser_expect_p : Plan := .seq [] (some (⟨[], [none], []⟩, true)) (.leaf) (.leaf)
def arith_parser_expect_c (F : Nat) : Ctr E := ⟨arith_parser_expect_s, fun (x : (List UInt8) × (List UInt8) × Int × Int × (List UInt8)) => arith_parser_expect F x.1 x.2.1 x.2.2.1 x.2.2.2.1 x.2.2.2.2⟩
theorem arith_parser_expect_ok (F : Nat) : (arith_parser_expect_c F).Ok Tryd.prog := Ctr.ok_of (X := ⟨Tryd.prog, tyT, [arith_parser_sees_c F, arith_parser_reject_c F, arith_parser_advance_c F]⟩) (F := F) ⟨E_ok, okC (arith_parser_sees_ok F) (okC (arith_parser_reject_ok F) (okC (arith_parser_advance_ok F) (okN))), mixed⟩ (pl := arith_parser_expect_p) Tryd.func74 (by kernel_rfl) (fun x => by kernel_rfl)
/- jobshell/arith.binaries -/
def arith_binaries (F : Nat)   : Option (List Tbinary) :=
 some ([(Tbinary.mk ([124, 124] : List UInt8) 3 24), (Tbinary.mk ([38, 38] : List UInt8) 4 23), (Tbinary.mk ([124] : List UInt8) 5 22), (Tbinary.mk ([94] : List UInt8) 6 21), (Tbinary.mk ([38] : List UInt8) 7 20), (Tbinary.mk ([61, 61] : List UInt8) 8 18), (Tbinary.mk ([33, 61] : List UInt8) 8 19), (Tbinary.mk ([60] : List UInt8) 9 14), (Tbinary.mk ([62] : List UInt8) 9 15), (Tbinary.mk ([60, 61] : List UInt8) 9 16), (Tbinary.mk ([62, 61] : List UInt8) 9 17), (Tbinary.mk ([60, 60] : List UInt8) 10 12), (Tbinary.mk ([62, 62] : List UInt8) 10 13), (Tbinary.mk ([43] : List UInt8) 11 10), (Tbinary.mk ([45] : List UInt8) 11 11), (Tbinary.mk ([42] : List UInt8) 12 7), (Tbinary.mk ([47] : List UInt8) 12 8), (Tbinary.mk ([37] : List UInt8) 12 9)] : List Tbinary)
def arith_binaries_s : Shp := ⟨77, [], [], [], ⟨.one (.dat (.lst (.ext 4))), [], []⟩, none⟩
def arith_binaries_p : Plan := .leaf
def arith_binaries_c (F : Nat) : Ctr E := ⟨arith_binaries_s, fun (x : Unit) => arith_binaries F ⟩
theorem arith_binaries_ok (F : Nat) : (arith_binaries_c F).Ok Tryd.prog := Ctr.ok_of (X := ⟨Tryd.prog, tyT, []⟩) (F := F) ⟨E_ok, okN, mixed⟩ (pl := arith_binaries_p) Tryd.func77 (by kernel_rfl) (fun x => by kernel_rfl)
/- (*jobshell/arith.parser).operator -/
def arith_parser_operator (F : Nat)  (a0 : List UInt8) (a1 : Int) (a2 : Int) (a3 : List UInt8) : Option (Int × Int) :=
 cond (a1 == 3)
 ((arith_binaries F).bind fun x1 =>
 loopF (σ := Int) (R := Int × Int) (fun rc3 x2 =>
 cond (decide (x2 < (x1.length : Int)))
 (rq ((decide (0 ≤ x2)) && (decide (x2 < (x1.length : Int)))) (cond (((x1.getD (Int.toNat x2) dTbinary).fsymbol) == a3)
 (some ((x1.getD (Int.toNat x2) dTbinary).flevel, (x1.getD (Int.toNat x2) dTbinary).fop))
 (rc3 (w64 (x2 + 1)))))
 (some (0, 0))) F 0)
 (some (0, 0))
def arith_parser_operator_s : Shp := ⟨91, [.one (.ptr 0 0)], [.cells 51 [.dat .str, .dat (.int .i64), .dat (.int .i64), .dat .str]], [], ⟨.tup [.dat (.int .i64), .dat (.int .i64)], [none], []⟩, none⟩
def arith_parser_operator_p : Plan := .seq [] none (.leaf) (.seq [] none (.seq [] none (.leaf) (.cond (.seq [] none (.leaf) (.loop [] ⟨[(14, .one (.dat (.int .i64)))], [none], []⟩ (.seq [] none (.leaf) (.seq [] none (.leaf) (.seq [] none (.seq [] none (.leaf) (.seq [] none (.draw [⟨true, 8, none⟩]) (.cond (.seq [] none (.draw [⟨true, 6, none⟩]) (.leaf)) (.leaf)))) (.leaf)))))) (.leaf))) (.leaf))
def arith_parser_operator_c (F : Nat) : Ctr E := ⟨arith_parser_operator_s, fun (x : (List UInt8) × Int × Int × (List UInt8)) => arith_parser_operator F x.1 x.2.1 x.2.2.1 x.2.2.2⟩
theorem arith_parser_operator_ok (F : Nat) : (arith_parser_operator_c F).Ok Tryd.prog := Ctr.ok_of (X := ⟨Tryd.prog, tyT, [arith_binaries_c F]⟩) (F := F) ⟨E_ok, okC (arith_binaries_ok F) (okN), mixed⟩ (pl := arith_parser_operator_p) Tryd.func91 (by kernel_rfl) (fun x => by kernel_rfl)
/- internal/stringslite.HasSuffix -/
def stringslite_HasSuffix (F : Nat)  (a0 : List UInt8) (a1 : List UInt8) : Option Bool :=
 (cond (decide ((a1.length : Int) ≤ (a0.length : Int)))
 (rq ((decide (0 ≤ w64 ((a0.length : Int) - (a1.length : Int)))) && ((decide (w64 ((a0.length : Int) - (a1.length : Int)) ≤ (a0.length : Int))) && (decide ((a0.length : Int) ≤ (a0.length : Int))))) (some ((sl a0 (w64 ((a0.length : Int) - (a1.length : Int))) (a0.length : Int)) == a1)))
 (some false) : Option Bool).bind fun x1 =>
 some x1
def stringslite_HasSuffix_s : Shp := ⟨92, [.one (.dat .str), .one (.dat .str)], [], [], ⟨.one (.dat .bool), [], []⟩, none⟩
def stringslite_HasSuffix_p : Plan := .seq [] none (.leaf) (.seq [] none (.region [(16, ⟨[(20, .one (.dat .bool))], [], []⟩, false)]) (.leaf))
def stringslite_HasSuffix_c (F : Nat) : Ctr E := ⟨stringslite_HasSuffix_s, fun (x : (List UInt8) × (List UInt8)) => stringslite_HasSuffix F x.1 x.2⟩
theorem stringslite_HasSuffix_ok (F : Nat) : (stringslite_HasSuffix_c F).Ok Tryd.prog := Ctr.ok_of (X := ⟨Tryd.prog, tyT, []⟩) (F := F) ⟨E_ok, okN, mixed⟩ (pl := stringslite_HasSuffix_p) Tryd.func92 (by kernel_rfl) (fun x => by kernel_rfl)
/- strings.HasSuffix -/
def strings_HasSuffix (F : Nat)  (a0 : List UInt8) (a1 : List UInt8) : Option Bool :=
 (stringslite_HasSuffix F a0 a1).bind fun x1 =>
 some x1
def strings_HasSuffix_s : Shp := ⟨75, [.one (.dat .str), .one (.dat .str)], [], [], ⟨.one (.dat .bool), [], []⟩, none⟩
def strings_HasSuffix_p : Plan := .leaf
def strings_HasSuffix_c (F : Nat) : Ctr E := ⟨strings_HasSuffix_s, fun (x : (List UInt8) × (List UInt8)) => strings_HasSuffix F x.1 x.2⟩
theorem strings_HasSuffix_ok (F : Nat) : (strings_HasSuffix_c F).Ok Tryd.prog := Ctr.ok_of (X := ⟨Tryd.prog, tyT, [stringslite_HasSuffix_c F]⟩) (F := F) ⟨E_ok, okC (stringslite_HasSuffix_ok F) (okN), mixed⟩ (pl := strings_HasSuffix_p) Tryd.func75 (by kernel_rfl) (fun x => by kernel_rfl)
/- internal/stringslite.TrimSuffix -/
def stringslite_TrimSuffix (F : Nat)  (a0 : List UInt8) (a1 : List UInt8) : Option (List UInt8) :=
 (stringslite_HasSuffix F a0 a1).bind fun x1 =>
 cond x1
 (rq ((decide (0 ≤ w64 ((a0.length : Int) - (a1.length : Int)))) && (decide (w64 ((a0.length : Int) - (a1.length : Int)) ≤ (a0.length : Int)))) (some (sl a0 0 (w64 ((a0.length : Int) - (a1.length : Int))))))
 (some a0)
def stringslite_TrimSuffix_s : Shp := ⟨93, [.one (.dat .str), .one (.dat .str)], [], [], ⟨.one (.dat .str), [], []⟩, none⟩
def stringslite_TrimSuffix_p : Plan := .leaf
def stringslite_TrimSuffix_c (F : Nat) : Ctr E := ⟨stringslite_TrimSuffix_s, fun (x : (List UInt8) × (List UInt8)) => stringslite_TrimSuffix F x.1 x.2⟩
theorem stringslite_TrimSuffix_ok (F : Nat) : (stringslite_TrimSuffix_c F).Ok Tryd.prog := Ctr.ok_of (X := ⟨Tryd.prog, tyT, [stringslite_HasSuffix_c F]⟩) (F := F) ⟨E_ok, okC (stringslite_HasSuffix_ok F) (okN), mixed⟩ (pl := stringslite_TrimSuffix_p) Tryd.func93 (by kernel_rfl) (fun x => by kernel_rfl)
/- strings.TrimSuffix -/
def strings_TrimSuffix (F : Nat)  (a0 : List UInt8) (a1 : List UInt8) : Option (List UInt8) :=
 (stringslite_TrimSuffix F a0 a1).bind fun x1 =>
 some x1
def strings_TrimSuffix_s : Shp := ⟨76, [.one (.dat .str), .one (.dat .str)], [], [], ⟨.one (.dat .str), [], []⟩, none⟩
def strings_TrimSuffix_p : Plan := .leaf
def strings_TrimSuffix_c (F : Nat) : Ctr E := ⟨strings_TrimSuffix_s, fun (x : (List UInt8) × (List UInt8)) => strings_TrimSuffix F x.1 x.2⟩
theorem strings_TrimSuffix_ok (F : Nat) : (strings_TrimSuffix_c F).Ok Tryd.prog := Ctr.ok_of (X := ⟨Tryd.prog, tyT, [stringslite_TrimSuffix_c F]⟩) (F := F) ⟨E_ok, okC (stringslite_TrimSuffix_ok F) (okN), mixed⟩ (pl := strings_TrimSuffix_p) Tryd.func76 (by kernel_rfl) (fun x => by kernel_rfl)
/- jobshell/arith.compound -/
def arith_compound (F : Nat)  (a0 : Int) : Option Bool :=
 cond (a0 == 10)
 (cond (a0 == 10)
 (some true)
 (some false))
 (cond (a0 == 11)
 (cond (a0 == 11)
 (some true)
 (some false))
 (cond (a0 == 7)
 (cond (a0 == 7)
 (some true)
 (some false))
 (cond (a0 == 8)
 (cond (a0 == 8)
 (some true)
 (some false))
 (cond (a0 == 9)
 (cond (a0 == 9)
 (some true)
 (some false))
 (cond (a0 == 12)
 (cond (a0 == 12)
 (some true)
 (some false))
 (cond (a0 == 13)
 (cond (a0 == 13)
 (some true)
 (some false))
 (cond (a0 == 20)
 (cond (a0 == 20)
 (some true)
 (some false))
 (cond (a0 == 21)
 (cond (a0 == 21)
 (some true)
 (some false))
 (cond (a0 == 22)
 (some true)
 (some false))))))))))
def arith_compound_s : Shp := ⟨66, [.one (.dat (.int .i64))], [], [], ⟨.one (.dat .bool), [], []⟩, none⟩
def arith_compound_p : Plan := .leaf
def arith_compound_c (F : Nat) : Ctr E := ⟨arith_compound_s, fun (x : Int) => arith_compound F x⟩
theorem arith_compound_ok (F : Nat) : (arith_compound_c F).Ok Tryd.prog := Ctr.ok_of (X := ⟨Tryd.prog, tyT, []⟩) (F := F) ⟨E_ok, okN, mixed⟩ (pl := arith_compound_p) Tryd.func66 (by kernel_rfl) (fun x => by kernel_rfl)
/- jobshell/arith.assignment -/
def arith_assignment (F : Nat)  (a0 : Ttoken) : Option (Int × Bool) :=
 (cond (a0.fkind != 3)
 (some true)
 ((strings_HasSuffix F a0.ftext ([61] : List UInt8)).bind fun x2 =>
 some (!x2)) : Option Bool).bind fun x1 =>
 cond x1
 (some (0, false))
 ((strings_TrimSuffix F a0.ftext ([61] : List UInt8)).bind fun x3 =>
 cond (x3 == [])
 (some (0, true))
 ((arith_binaries F).bind fun x4 =>
 loopF (σ := Int) (R := Int × Bool) (fun rc6 x5 =>
 cond (decide (x5 < (x4.length : Int)))
 (rq ((decide (0 ≤ x5)) && (decide (x5 < (x4.length : Int)))) ((cond (((x4.getD (Int.toNat x5) dTbinary).fsymbol) == x3)
 ((arith_compound F ((x4.getD (Int.toNat x5) dTbinary).fop)).bind fun x8 =>
 some x8)
 (some false) : Option Bool).bind fun x7 =>
 cond x7
 (some ((x4.getD (Int.toNat x5) dTbinary).fop, true))
 (rc6 (w64 (x5 + 1)))))
 (some (0, false))) F 0))
def arith_assignment_s : Shp := ⟨48, [.one (.dat (.ext 2))], [], [], ⟨.tup [.dat (.int .i64), .dat .bool], [], []⟩, none⟩
def arith_assignment_p : Plan := .seq [] none (.leaf) (.seq [] none (.seq [] none (.region [(9, ⟨[(15, .one (.dat .bool))], [none], []⟩, false)]) (.leaf)) (.seq [] none (.leaf) (.seq [] none (.leaf) (.seq [] none (.seq [] none (.leaf) (.loop [] ⟨[(23, .one (.dat (.int .i64)))], [none], []⟩ (.seq [] none (.leaf) (.seq [] none (.leaf) (.seq [] none (.seq [] none (.leaf) (.seq [] none (.region [(9, ⟨[(35, .one (.dat .bool))], [none, none], []⟩, false)]) (.leaf))) (.leaf)))))) (.leaf)))))
def arith_assignment_c (F : Nat) : Ctr E := ⟨arith_assignment_s, fun (x : Ttoken) => arith_assignment F x⟩
theorem arith_assignment_ok (F : Nat) : (arith_assignment_c F).Ok Tryd.prog := Ctr.ok_of (X := ⟨Tryd.prog, tyT, [strings_HasSuffix_c F, strings_TrimSuffix_c F, arith_binaries_c F, arith_compound_c F]⟩) (F := F) ⟨E_ok, okC (strings_HasSuffix_ok F) (okC (strings_TrimSuffix_ok F) (okC (arith_binaries_ok F) (okC (arith_compound_ok F) (okN)))), mixed⟩ (pl := arith_assignment_p) Tryd.func48 (by kernel_rfl) (fun x => by kernel_rfl)
/- (*jobshell/arith.parser).expression -/
def arith_parser_expression_m (F : Nat) (r_arith_parser_expression : (List UInt8) → Int → Int → (List UInt8) → Option ((TExpr × (List UInt8) × Int × Int × (List UInt8)) ⊕ (Tfault × (List UInt8) × Int × Int × (List UInt8)))) (r_arith_parser_condition : (List UInt8) → Int → Int → (List UInt8) → Option ((TExpr × (List UInt8) × Int × Int × (List UInt8)) ⊕ (Tfault × (List UInt8) × Int × Int × (List UInt8)))) (r_arith_parser_operation : Int → (List UInt8) → Int → Int → (List UInt8) → Option ((TExpr × (List UInt8) × Int × Int × (List UInt8)) ⊕ (Tfault × (List UInt8) × Int × Int × (List UInt8)))) (r_arith_parser_unary : (List UInt8) → Int → Int → (List UInt8) → Option ((TExpr × (List UInt8) × Int × Int × (List UInt8)) ⊕ (Tfault × (List UInt8) × Int × Int × (List UInt8)))) (r_arith_parser_primary : (List UInt8) → Int → Int → (List UInt8) → Option ((TExpr × (List UInt8) × Int × Int × (List UInt8)) ⊕ (Tfault × (List UInt8) × Int × Int × (List UInt8)))) (a0 : List UInt8) (a1 : Int) (a2 : Int) (a3 : List UInt8) : Option ((TExpr × (List UInt8) × Int × Int × (List UInt8)) ⊕ (Tfault × (List UInt8) × Int × Int × (List UInt8))) :=
 cond (a1 != 2)
 ((r_arith_parser_condition a0 a1 a2 a3).bind (sm (fun x1 =>
 some (.inl ((TExpr.mk x1.1.fOp x1.1.fN x1.1.fName x1.1.fKids), x1.2.1, x1.2.2.1, x1.2.2.2.1, x1.2.2.2.2))) (fun x2 => some (.inr (x2.1, x2.2.1, x2.2.2.1, x2.2.2.2.1, x2.2.2.2.2)))))
 ((arith_parser_after F a0 a1 a2 a3).bind fun x3 =>
 (arith_assignment F x3).bind fun x4 =>
 cond (!x4.2)
 ((r_arith_parser_condition a0 a1 a2 a3).bind (sm (fun x5 =>
 some (.inl ((TExpr.mk x5.1.fOp x5.1.fN x5.1.fName x5.1.fKids), x5.2.1, x5.2.2.1, x5.2.2.2.1, x5.2.2.2.2))) (fun x6 => some (.inr (x6.1, x6.2.1, x6.2.2.1, x6.2.2.2.1, x6.2.2.2.2)))))
 ((arith_parser_variable F a0 a1 a2 a3).bind (sm (fun x7 =>
 (arith_parser_advance F x7.2.1 x7.2.2.1 x7.2.2.2.1 x7.2.2.2.2).bind fun x8 =>
 (r_arith_parser_expression x8.1 x8.2.1 x8.2.2.1 x8.2.2.2).bind (sm (fun x9 =>
 some (.inl ((TExpr.mk ((TExpr.mk 26 x4.1 x7.1 ([x9.1] : List TExpr)).fOp) ((TExpr.mk 26 x4.1 x7.1 ([x9.1] : List TExpr)).fN) ((TExpr.mk 26 x4.1 x7.1 ([x9.1] : List TExpr)).fName) ((TExpr.mk 26 x4.1 x7.1 ([x9.1] : List TExpr)).fKids)), x9.2.1, x9.2.2.1, x9.2.2.2.1, x9.2.2.2.2))) (fun x10 => some (.inr (x10.1, x10.2.1, x10.2.2.1, x10.2.2.2.1, x10.2.2.2.2))))) (fun x11 => some (.inr (x11, a0, a1, a2, a3))))))
def arith_parser_expression_s : Shp := ⟨26, [.one (.ptr 0 0)], [.cells 51 [.dat .str, .dat (.int .i64), .dat (.int .i64), .dat .str]], [], ⟨.one (.dat (.ext 0)), [some (.cells 51 [.dat .str, .dat (.int .i64), .dat (.int .i64), .dat .str])], []⟩, some ⟨.one (.iface 44 (.ext 1)), [some (.cells 51 [.dat .str, .dat (.int .i64), .dat (.int .i64), .dat .str])], []⟩⟩
def arith_parser_expression_p : Plan := .leaf
/- (*jobshell/arith.parser).condition -/
def arith_parser_condition_m (F : Nat) (r_arith_parser_expression : (List UInt8) → Int → Int → (List UInt8) → Option ((TExpr × (List UInt8) × Int × Int × (List UInt8)) ⊕ (Tfault × (List UInt8) × Int × Int × (List UInt8)))) (r_arith_parser_condition : (List UInt8) → Int → Int → (List UInt8) → Option ((TExpr × (List UInt8) × Int × Int × (List UInt8)) ⊕ (Tfault × (List UInt8) × Int × Int × (List UInt8)))) (r_arith_parser_operation : Int → (List UInt8) → Int → Int → (List UInt8) → Option ((TExpr × (List UInt8) × Int × Int × (List UInt8)) ⊕ (Tfault × (List UInt8) × Int × Int × (List UInt8)))) (r_arith_parser_unary : (List UInt8) → Int → Int → (List UInt8) → Option ((TExpr × (List UInt8) × Int × Int × (List UInt8)) ⊕ (Tfault × (List UInt8) × Int × Int × (List UInt8)))) (r_arith_parser_primary : (List UInt8) → Int → Int → (List UInt8) → Option ((TExpr × (List UInt8) × Int × Int × (List UInt8)) ⊕ (Tfault × (List UInt8) × Int × Int × (List UInt8)))) (a0 : List UInt8) (a1 : Int) (a2 : Int) (a3 : List UInt8) : Option ((TExpr × (List UInt8) × Int × Int × (List UInt8)) ⊕ (Tfault × (List UInt8) × Int × Int × (List UInt8))) :=
 (r_arith_parser_operation 3 a0 a1 a2 a3).bind (sm (fun x1 =>
 (arith_parser_sees F ([63] : List UInt8) x1.2.1 x1.2.2.1 x1.2.2.2.1 x1.2.2.2.2).bind fun x2 =>
 cond (!x2)
 (some (.inl ((TExpr.mk ((TExpr.mk x1.1.fOp x1.1.fN x1.1.fName x1.1.fKids).fOp) ((TExpr.mk x1.1.fOp x1.1.fN x1.1.fName x1.1.fKids).fN) ((TExpr.mk x1.1.fOp x1.1.fN x1.1.fName x1.1.fKids).fName) ((TExpr.mk x1.1.fOp x1.1.fN x1.1.fName x1.1.fKids).fKids)), x1.2.1, x1.2.2.1, x1.2.2.2.1, x1.2.2.2.2)))
 ((arith_parser_advance F x1.2.1 x1.2.2.1 x1.2.2.2.1 x1.2.2.2.2).bind fun x3 =>
 (r_arith_parser_expression x3.1 x3.2.1 x3.2.2.1 x3.2.2.2).bind (sm (fun x4 =>
 (arith_parser_expect F ([58] : List UInt8) x4.2.1 x4.2.2.1 x4.2.2.2.1 x4.2.2.2.2).bind (sm (fun x5 =>
 (r_arith_parser_condition x5.1 x5.2.1 x5.2.2.1 x5.2.2.2).bind (sm (fun x6 =>
 some (.inl ((TExpr.mk ((TExpr.mk 25 0 [] ([(TExpr.mk x1.1.fOp x1.1.fN x1.1.fName x1.1.fKids), (TExpr.mk x4.1.fOp x4.1.fN x4.1.fName x4.1.fKids), (TExpr.mk x6.1.fOp x6.1.fN x6.1.fName x6.1.fKids)] : List TExpr)).fOp) ((TExpr.mk 25 0 [] ([(TExpr.mk x1.1.fOp x1.1.fN x1.1.fName x1.1.fKids), (TExpr.mk x4.1.fOp x4.1.fN x4.1.fName x4.1.fKids), (TExpr.mk x6.1.fOp x6.1.fN x6.1.fName x6.1.fKids)] : List TExpr)).fN) ((TExpr.mk 25 0 [] ([(TExpr.mk x1.1.fOp x1.1.fN x1.1.fName x1.1.fKids), (TExpr.mk x4.1.fOp x4.1.fN x4.1.fName x4.1.fKids), (TExpr.mk x6.1.fOp x6.1.fN x6.1.fName x6.1.fKids)] : List TExpr)).fName) ((TExpr.mk 25 0 [] ([(TExpr.mk x1.1.fOp x1.1.fN x1.1.fName x1.1.fKids), (TExpr.mk x4.1.fOp x4.1.fN x4.1.fName x4.1.fKids), (TExpr.mk x6.1.fOp x6.1.fN x6.1.fName x6.1.fKids)] : List TExpr)).fKids)), x6.2.1, x6.2.2.1, x6.2.2.2.1, x6.2.2.2.2))) (fun x7 => some (.inr (x7.1, x7.2.1, x7.2.2.1, x7.2.2.2.1, x7.2.2.2.2))))) (fun x8 => some (.inr (x8, x4.2.1, x4.2.2.1, x4.2.2.2.1, x4.2.2.2.2))))) (fun x9 => some (.inr (x9.1, x9.2.1, x9.2.2.1, x9.2.2.2.1, x9.2.2.2.2)))))) (fun x10 => some (.inr (x10.1, x10.2.1, x10.2.2.1, x10.2.2.2.1, x10.2.2.2.2))))
def arith_parser_condition_s : Shp := ⟨47, [.one (.ptr 0 0)], [.cells 51 [.dat .str, .dat (.int .i64), .dat (.int .i64), .dat .str]], [], ⟨.one (.dat (.ext 0)), [some (.cells 51 [.dat .str, .dat (.int .i64), .dat (.int .i64), .dat .str])], []⟩, some ⟨.one (.iface 44 (.ext 1)), [some (.cells 51 [.dat .str, .dat (.int .i64), .dat (.int .i64), .dat .str])], []⟩⟩
def arith_parser_condition_p : Plan := .leaf
/- (*jobshell/arith.parser).operation -/
def arith_parser_operation_m (F : Nat) (r_arith_parser_expression : (List UInt8) → Int → Int → (List UInt8) → Option ((TExpr × (List UInt8) × Int × Int × (List UInt8)) ⊕ (Tfault × (List UInt8) × Int × Int × (List UInt8)))) (r_arith_parser_condition : (List UInt8) → Int → Int → (List UInt8) → Option ((TExpr × (List UInt8) × Int × Int × (List UInt8)) ⊕ (Tfault × (List UInt8) × Int × Int × (List UInt8)))) (r_arith_parser_operation : Int → (List UInt8) → Int → Int → (List UInt8) → Option ((TExpr × (List UInt8) × Int × Int × (List UInt8)) ⊕ (Tfault × (List UInt8) × Int × Int × (List UInt8)))) (r_arith_parser_unary : (List UInt8) → Int → Int → (List UInt8) → Option ((TExpr × (List UInt8) × Int × Int × (List UInt8)) ⊕ (Tfault × (List UInt8) × Int × Int × (List UInt8)))) (r_arith_parser_primary : (List UInt8) → Int → Int → (List UInt8) → Option ((TExpr × (List UInt8) × Int × Int × (List UInt8)) ⊕ (Tfault × (List UInt8) × Int × Int × (List UInt8)))) (a0 : Int) (a1 : List UInt8) (a2 : Int) (a3 : Int) (a4 : List UInt8) : Option ((TExpr × (List UInt8) × Int × Int × (List UInt8)) ⊕ (Tfault × (List UInt8) × Int × Int × (List UInt8))) :=
 (r_arith_parser_unary a1 a2 a3 a4).bind (sm (fun x1 =>
 loopF (σ := (List UInt8) × Int × Int × (List UInt8) × Int × Int × (List UInt8) × (List TExpr)) (R := (TExpr × (List UInt8) × Int × Int × (List UInt8)) ⊕ (Tfault × (List UInt8) × Int × Int × (List UInt8))) (fun rc3 x2 =>
 (arith_parser_operator F x2.1 x2.2.1 x2.2.2.1 x2.2.2.2.1).bind fun x4 =>
 cond (decide (x4.1 < a0))
 (some (.inl ((TExpr.mk ((TExpr.mk x2.2.2.2.2.1 x2.2.2.2.2.2.1 x2.2.2.2.2.2.2.1 x2.2.2.2.2.2.2.2).fOp) ((TExpr.mk x2.2.2.2.2.1 x2.2.2.2.2.2.1 x2.2.2.2.2.2.2.1 x2.2.2.2.2.2.2.2).fN) ((TExpr.mk x2.2.2.2.2.1 x2.2.2.2.2.2.1 x2.2.2.2.2.2.2.1 x2.2.2.2.2.2.2.2).fName) ((TExpr.mk x2.2.2.2.2.1 x2.2.2.2.2.2.1 x2.2.2.2.2.2.2.1 x2.2.2.2.2.2.2.2).fKids)), x2.1, x2.2.1, x2.2.2.1, x2.2.2.2.1)))
 ((arith_parser_advance F x2.1 x2.2.1 x2.2.2.1 x2.2.2.2.1).bind fun x5 =>
 (r_arith_parser_operation (w64 (x4.1 + 1)) x5.1 x5.2.1 x5.2.2.1 x5.2.2.2).bind (sm (fun x6 =>
 rc3 (x6.2.1, x6.2.2.1, x6.2.2.2.1, x6.2.2.2.2, (TExpr.mk x4.2 0 [] ([(TExpr.mk x2.2.2.2.2.1 x2.2.2.2.2.2.1 x2.2.2.2.2.2.2.1 x2.2.2.2.2.2.2.2), (TExpr.mk x6.1.fOp x6.1.fN x6.1.fName x6.1.fKids)] : List TExpr)).fOp, (TExpr.mk x4.2 0 [] ([(TExpr.mk x2.2.2.2.2.1 x2.2.2.2.2.2.1 x2.2.2.2.2.2.2.1 x2.2.2.2.2.2.2.2), (TExpr.mk x6.1.fOp x6.1.fN x6.1.fName x6.1.fKids)] : List TExpr)).fN, (TExpr.mk x4.2 0 [] ([(TExpr.mk x2.2.2.2.2.1 x2.2.2.2.2.2.1 x2.2.2.2.2.2.2.1 x2.2.2.2.2.2.2.2), (TExpr.mk x6.1.fOp x6.1.fN x6.1.fName x6.1.fKids)] : List TExpr)).fName, (TExpr.mk x4.2 0 [] ([(TExpr.mk x2.2.2.2.2.1 x2.2.2.2.2.2.1 x2.2.2.2.2.2.2.1 x2.2.2.2.2.2.2.2), (TExpr.mk x6.1.fOp x6.1.fN x6.1.fName x6.1.fKids)] : List TExpr)).fKids)) (fun x7 => some (.inr (x7.1, x7.2.1, x7.2.2.1, x7.2.2.2.1, x7.2.2.2.2)))))) F (x1.2.1, x1.2.2.1, x1.2.2.2.1, x1.2.2.2.2, x1.1.fOp, x1.1.fN, x1.1.fName, x1.1.fKids)) (fun x8 => some (.inr (x8.1, x8.2.1, x8.2.2.1, x8.2.2.2.1, x8.2.2.2.2))))
def arith_parser_operation_s : Shp := ⟨72, [.one (.ptr 0 0), .one (.dat (.int .i64))], [.cells 51 [.dat .str, .dat (.int .i64), .dat (.int .i64), .dat .str]], [], ⟨.one (.dat (.ext 0)), [some (.cells 51 [.dat .str, .dat (.int .i64), .dat (.int .i64), .dat .str])], []⟩, some ⟨.one (.iface 44 (.ext 1)), [some (.cells 51 [.dat .str, .dat (.int .i64), .dat (.int .i64), .dat .str])], []⟩⟩
def arith_parser_operation_p : Plan := .seq [] none (.leaf) (.seq [] none (.leaf) (.loop [] ⟨[], [some (.cells 51 [.dat .str, .dat (.int .i64), .dat (.int .i64), .dat .str]), none, some (.cells 26 [.dat (.int .i64), .dat (.int .i64), .dat .str, .dat (.lst (.ext 0))])], []⟩ (.leaf)))
/- (*jobshell/arith.parser).unary -/
def arith_parser_unary_m (F : Nat) (r_arith_parser_expression : (List UInt8) → Int → Int → (List UInt8) → Option ((TExpr × (List UInt8) × Int × Int × (List UInt8)) ⊕ (Tfault × (List UInt8) × Int × Int × (List UInt8)))) (r_arith_parser_condition : (List UInt8) → Int → Int → (List UInt8) → Option ((TExpr × (List UInt8) × Int × Int × (List UInt8)) ⊕ (Tfault × (List UInt8) × Int × Int × (List UInt8)))) (r_arith_parser_operation : Int → (List UInt8) → Int → Int → (List UInt8) → Option ((TExpr × (List UInt8) × Int × Int × (List UInt8)) ⊕ (Tfault × (List UInt8) × Int × Int × (List UInt8)))) (r_arith_parser_unary : (List UInt8) → Int → Int → (List UInt8) → Option ((TExpr × (List UInt8) × Int × Int × (List UInt8)) ⊕ (Tfault × (List UInt8) × Int × Int × (List UInt8)))) (r_arith_parser_primary : (List UInt8) → Int → Int → (List UInt8) → Option ((TExpr × (List UInt8) × Int × Int × (List UInt8)) ⊕ (Tfault × (List UInt8) × Int × Int × (List UInt8)))) (a0 : List UInt8) (a1 : Int) (a2 : Int) (a3 : List UInt8) : Option ((TExpr × (List UInt8) × Int × Int × (List UInt8)) ⊕ (Tfault × (List UInt8) × Int × Int × (List UInt8))) :=
 jj (σ := Int) (R := (TExpr × (List UInt8) × Int × Int × (List UInt8)) ⊕ (Tfault × (List UInt8) × Int × Int × (List UInt8))) ((arith_parser_sees F ([45] : List UInt8) a0 a1 a2 a3).bind fun x2 =>
 cond x2
 (some (.inl 3))
 ((arith_parser_sees F ([43] : List UInt8) a0 a1 a2 a3).bind fun x3 =>
 cond x3
 (some (.inl 4))
 ((arith_parser_sees F ([33] : List UInt8) a0 a1 a2 a3).bind fun x4 =>
 cond x4
 (some (.inl 5))
 ((arith_parser_sees F ([126] : List UInt8) a0 a1 a2 a3).bind fun x5 =>
 cond x5
 (some (.inl 6))
 ((r_arith_parser_primary a0 a1 a2 a3).bind (sm (fun x6 =>
 some (.inr (.inl ((TExpr.mk x6.1.fOp x6.1.fN x6.1.fName x6.1.fKids), x6.2.1, x6.2.2.1, x6.2.2.2.1, x6.2.2.2.2)))) (fun x7 => some (.inr (.inr (x7.1, x7.2.1, x7.2.2.1, x7.2.2.2.1, x7.2.2.2.2)))))))))) fun x1 =>
 (arith_parser_advance F a0 a1 a2 a3).bind fun x8 =>
 (r_arith_parser_unary x8.1 x8.2.1 x8.2.2.1 x8.2.2.2).bind (sm (fun x9 =>
 some (.inl ((TExpr.mk ((TExpr.mk x1 0 [] ([x9.1] : List TExpr)).fOp) ((TExpr.mk x1 0 [] ([x9.1] : List TExpr)).fN) ((TExpr.mk x1 0 [] ([x9.1] : List TExpr)).fName) ((TExpr.mk x1 0 [] ([x9.1] : List TExpr)).fKids)), x9.2.1, x9.2.2.1, x9.2.2.2.1, x9.2.2.2.2))) (fun x10 => some (.inr (x10.1, x10.2.1, x10.2.2.1, x10.2.2.2.1, x10.2.2.2.2))))
def arith_parser_unary_s : Shp := ⟨90, [.one (.ptr 0 0)], [.cells 51 [.dat .str, .dat (.int .i64), .dat (.int .i64), .dat .str]], [], ⟨.one (.dat (.ext 0)), [some (.cells 51 [.dat .str, .dat (.int .i64), .dat (.int .i64), .dat .str])], []⟩, some ⟨.one (.iface 44 (.ext 1)), [some (.cells 51 [.dat .str, .dat (.int .i64), .dat (.int .i64), .dat .str])], []⟩⟩
def arith_parser_unary_p : Plan := .seq [] none (.leaf) (.seq [] none (.leaf) (.seq [] (some (⟨[(3, .one (.dat (.int .i64)))], [none, none], []⟩, true)) (.leaf) (.leaf)))
/- (*jobshell/arith.parser).primary -/
def arith_parser_primary_m (F : Nat) (r_arith_parser_expression : (List UInt8) → Int → Int → (List UInt8) → Option ((TExpr × (List UInt8) × Int × Int × (List UInt8)) ⊕ (Tfault × (List UInt8) × Int × Int × (List UInt8)))) (r_arith_parser_condition : (List UInt8) → Int → Int → (List UInt8) → Option ((TExpr × (List UInt8) × Int × Int × (List UInt8)) ⊕ (Tfault × (List UInt8) × Int × Int × (List UInt8)))) (r_arith_parser_operation : Int → (List UInt8) → Int → Int → (List UInt8) → Option ((TExpr × (List UInt8) × Int × Int × (List UInt8)) ⊕ (Tfault × (List UInt8) × Int × Int × (List UInt8)))) (r_arith_parser_unary : (List UInt8) → Int → Int → (List UInt8) → Option ((TExpr × (List UInt8) × Int × Int × (List UInt8)) ⊕ (Tfault × (List UInt8) × Int × Int × (List UInt8)))) (r_arith_parser_primary : (List UInt8) → Int → Int → (List UInt8) → Option ((TExpr × (List UInt8) × Int × Int × (List UInt8)) ⊕ (Tfault × (List UInt8) × Int × Int × (List UInt8)))) (a0 : List UInt8) (a1 : Int) (a2 : Int) (a3 : List UInt8) : Option ((TExpr × (List UInt8) × Int × Int × (List UInt8)) ⊕ (Tfault × (List UInt8) × Int × Int × (List UInt8))) :=
 cond (a1 == 1)
 ((arith_value F a3).bind fun x1 =>
 cond (x1.2 != 0)
 (some (.inr ((Tfault.mk a2 x1.2), a0, a1, a2, a3)))
 ((arith_parser_advance F a0 a1 a2 a3).bind fun x2 =>
 some (.inl ((TExpr.mk ((TExpr.mk 1 x1.1 [] []).fOp) ((TExpr.mk 1 x1.1 [] []).fN) ((TExpr.mk 1 x1.1 [] []).fName) ((TExpr.mk 1 x1.1 [] []).fKids)), x2.1, x2.2.1, x2.2.2.1, x2.2.2.2))))
 (cond (a1 == 2)
 ((arith_parser_variable F a0 a1 a2 a3).bind (sm (fun x3 =>
 some (.inl ((TExpr.mk ((TExpr.mk 2 0 x3.1 []).fOp) ((TExpr.mk 2 0 x3.1 []).fN) ((TExpr.mk 2 0 x3.1 []).fName) ((TExpr.mk 2 0 x3.1 []).fKids)), x3.2.1, x3.2.2.1, x3.2.2.2.1, x3.2.2.2.2))) (fun x4 => some (.inr (x4, a0, a1, a2, a3)))))
 ((arith_parser_expect F ([40] : List UInt8) a0 a1 a2 a3).bind (sm (fun x5 =>
 (r_arith_parser_expression x5.1 x5.2.1 x5.2.2.1 x5.2.2.2).bind (sm (fun x6 =>
 (arith_parser_expect F ([41] : List UInt8) x6.2.1 x6.2.2.1 x6.2.2.2.1 x6.2.2.2.2).bind (sm (fun x7 =>
 some (.inl ((TExpr.mk ((TExpr.mk x6.1.fOp x6.1.fN x6.1.fName x6.1.fKids).fOp) ((TExpr.mk x6.1.fOp x6.1.fN x6.1.fName x6.1.fKids).fN) ((TExpr.mk x6.1.fOp x6.1.fN x6.1.fName x6.1.fKids).fName) ((TExpr.mk x6.1.fOp x6.1.fN x6.1.fName x6.1.fKids).fKids)), x7.1, x7.2.1, x7.2.2.1, x7.2.2.2))) (fun x8 => some (.inr (x8, x6.2.1, x6.2.2.1, x6.2.2.2.1, x6.2.2.2.2))))) (fun x9 => some (.inr (x9.1, x9.2.1, x9.2.2.1, x9.2.2.2.1, x9.2.2.2.2))))) (fun x10 => some (.inr (x10, a0, a1, a2, a3))))))
def arith_parser_primary_s : Shp := ⟨99, [.one (.ptr 0 0)], [.cells 51 [.dat .str, .dat (.int .i64), .dat (.int .i64), .dat .str]], [], ⟨.one (.dat (.ext 0)), [some (.cells 51 [.dat .str, .dat (.int .i64), .dat (.int .i64), .dat .str])], []⟩, some ⟨.one (.iface 44 (.ext 1)), [some (.cells 51 [.dat .str, .dat (.int .i64), .dat (.int .i64), .dat .str])], []⟩⟩
def arith_parser_primary_p : Plan := .leaf
def arith_parser_expression_G (F : Nat) : Nat → ((List UInt8) → Int → Int → (List UInt8) → Option ((TExpr × (List UInt8) × Int × Int × (List UInt8)) ⊕ (Tfault × (List UInt8) × Int × Int × (List UInt8)))) × ((List UInt8) → Int → Int → (List UInt8) → Option ((TExpr × (List UInt8) × Int × Int × (List UInt8)) ⊕ (Tfault × (List UInt8) × Int × Int × (List UInt8)))) × (Int → (List UInt8) → Int → Int → (List UInt8) → Option ((TExpr × (List UInt8) × Int × Int × (List UInt8)) ⊕ (Tfault × (List UInt8) × Int × Int × (List UInt8)))) × ((List UInt8) → Int → Int → (List UInt8) → Option ((TExpr × (List UInt8) × Int × Int × (List UInt8)) ⊕ (Tfault × (List UInt8) × Int × Int × (List UInt8)))) × ((List UInt8) → Int → Int → (List UInt8) → Option ((TExpr × (List UInt8) × Int × Int × (List UInt8)) ⊕ (Tfault × (List UInt8) × Int × Int × (List UInt8))))
  | 0 => (fun _ _ _ _ => none, fun _ _ _ _ => none, fun _ _ _ _ _ => none, fun _ _ _ _ => none, fun _ _ _ _ => none)
  | n + 1 => (arith_parser_expression_m F (arith_parser_expression_G F n).1 (arith_parser_expression_G F n).2.1 (arith_parser_expression_G F n).2.2.1 (arith_parser_expression_G F n).2.2.2.1 (arith_parser_expression_G F n).2.2.2.2, arith_parser_condition_m F (arith_parser_expression_G F n).1 (arith_parser_expression_G F n).2.1 (arith_parser_expression_G F n).2.2.1 (arith_parser_expression_G F n).2.2.2.1 (arith_parser_expression_G F n).2.2.2.2, arith_parser_operation_m F (arith_parser_expression_G F n).1 (arith_parser_expression_G F n).2.1 (arith_parser_expression_G F n).2.2.1 (arith_parser_expression_G F n).2.2.2.1 (arith_parser_expression_G F n).2.2.2.2, arith_parser_unary_m F (arith_parser_expression_G F n).1 (arith_parser_expression_G F n).2.1 (arith_parser_expression_G F n).2.2.1 (arith_parser_expression_G F n).2.2.2.1 (arith_parser_expression_G F n).2.2.2.2, arith_parser_primary_m F (arith_parser_expression_G F n).1 (arith_parser_expression_G F n).2.1 (arith_parser_expression_G F n).2.2.1 (arith_parser_expression_G F n).2.2.2.1 (arith_parser_expression_G F n).2.2.2.2)
def arith_parser_expression_n (F n : Nat) : (List UInt8) → Int → Int → (List UInt8) → Option ((TExpr × (List UInt8) × Int × Int × (List UInt8)) ⊕ (Tfault × (List UInt8) × Int × Int × (List UInt8))) := (arith_parser_expression_G F n).1
def arith_parser_condition_n (F n : Nat) : (List UInt8) → Int → Int → (List UInt8) → Option ((TExpr × (List UInt8) × Int × Int × (List UInt8)) ⊕ (Tfault × (List UInt8) × Int × Int × (List UInt8))) := (arith_parser_expression_G F n).2.1
def arith_parser_operation_n (F n : Nat) : Int → (List UInt8) → Int → Int → (List UInt8) → Option ((TExpr × (List UInt8) × Int × Int × (List UInt8)) ⊕ (Tfault × (List UInt8) × Int × Int × (List UInt8))) := (arith_parser_expression_G F n).2.2.1
def arith_parser_unary_n (F n : Nat) : (List UInt8) → Int → Int → (List UInt8) → Option ((TExpr × (List UInt8) × Int × Int × (List UInt8)) ⊕ (Tfault × (List UInt8) × Int × Int × (List UInt8))) := (arith_parser_expression_G F n).2.2.2.1
def arith_parser_primary_n (F n : Nat) : (List UInt8) → Int → Int → (List UInt8) → Option ((TExpr × (List UInt8) × Int × Int × (List UInt8)) ⊕ (Tfault × (List UInt8) × Int × Int × (List UInt8))) := (arith_parser_expression_G F n).2.2.2.2
def arith_parser_expression (F : Nat) (a0 : List UInt8) (a1 : Int) (a2 : Int) (a3 : List UInt8) : Option ((TExpr × (List UInt8) × Int × Int × (List UInt8)) ⊕ (Tfault × (List UInt8) × Int × Int × (List UInt8))) := arith_parser_expression_n F F a0 a1 a2 a3
def arith_parser_condition (F : Nat) (a0 : List UInt8) (a1 : Int) (a2 : Int) (a3 : List UInt8) : Option ((TExpr × (List UInt8) × Int × Int × (List UInt8)) ⊕ (Tfault × (List UInt8) × Int × Int × (List UInt8))) := arith_parser_condition_n F F a0 a1 a2 a3
def arith_parser_operation (F : Nat) (a0 : Int) (a1 : List UInt8) (a2 : Int) (a3 : Int) (a4 : List UInt8) : Option ((TExpr × (List UInt8) × Int × Int × (List UInt8)) ⊕ (Tfault × (List UInt8) × Int × Int × (List UInt8))) := arith_parser_operation_n F F a0 a1 a2 a3 a4
def arith_parser_unary (F : Nat) (a0 : List UInt8) (a1 : Int) (a2 : Int) (a3 : List UInt8) : Option ((TExpr × (List UInt8) × Int × Int × (List UInt8)) ⊕ (Tfault × (List UInt8) × Int × Int × (List UInt8))) := arith_parser_unary_n F F a0 a1 a2 a3
def arith_parser_primary (F : Nat) (a0 : List UInt8) (a1 : Int) (a2 : Int) (a3 : List UInt8) : Option ((TExpr × (List UInt8) × Int × Int × (List UInt8)) ⊕ (Tfault × (List UInt8) × Int × Int × (List UInt8))) := arith_parser_primary_n F F a0 a1 a2 a3
def arith_parser_expression_cn (F n : Nat) : Ctr E := ⟨arith_parser_expression_s, fun (x : (List UInt8) × Int × Int × (List UInt8)) => arith_parser_expression_n F n x.1 x.2.1 x.2.2.1 x.2.2.2⟩
def arith_parser_expression_c (F : Nat) : Ctr E := ⟨arith_parser_expression_s, fun (x : (List UInt8) × Int × Int × (List UInt8)) => arith_parser_expression F x.1 x.2.1 x.2.2.1 x.2.2.2⟩
def arith_parser_condition_cn (F n : Nat) : Ctr E := ⟨arith_parser_condition_s, fun (x : (List UInt8) × Int × Int × (List UInt8)) => arith_parser_condition_n F n x.1 x.2.1 x.2.2.1 x.2.2.2⟩
def arith_parser_condition_c (F : Nat) : Ctr E := ⟨arith_parser_condition_s, fun (x : (List UInt8) × Int × Int × (List UInt8)) => arith_parser_condition F x.1 x.2.1 x.2.2.1 x.2.2.2⟩
def arith_parser_operation_cn (F n : Nat) : Ctr E := ⟨arith_parser_operation_s, fun (x : Int × (List UInt8) × Int × Int × (List UInt8)) => arith_parser_operation_n F n x.1 x.2.1 x.2.2.1 x.2.2.2.1 x.2.2.2.2⟩
def arith_parser_operation_c (F : Nat) : Ctr E := ⟨arith_parser_operation_s, fun (x : Int × (List UInt8) × Int × Int × (List UInt8)) => arith_parser_operation F x.1 x.2.1 x.2.2.1 x.2.2.2.1 x.2.2.2.2⟩
def arith_parser_unary_cn (F n : Nat) : Ctr E := ⟨arith_parser_unary_s, fun (x : (List UInt8) × Int × Int × (List UInt8)) => arith_parser_unary_n F n x.1 x.2.1 x.2.2.1 x.2.2.2⟩
def arith_parser_unary_c (F : Nat) : Ctr E := ⟨arith_parser_unary_s, fun (x : (List UInt8) × Int × Int × (List UInt8)) => arith_parser_unary F x.1 x.2.1 x.2.2.1 x.2.2.2⟩
def arith_parser_primary_cn (F n : Nat) : Ctr E := ⟨arith_parser_primary_s, fun (x : (List UInt8) × Int × Int × (List UInt8)) => arith_parser_primary_n F n x.1 x.2.1 x.2.2.1 x.2.2.2⟩
def arith_parser_primary_c (F : Nat) : Ctr E := ⟨arith_parser_primary_s, fun (x : (List UInt8) × Int × Int × (List UInt8)) => arith_parser_primary F x.1 x.2.1 x.2.2.1 x.2.2.2⟩
theorem arith_parser_expression_st (F n : Nat) (h : (arith_parser_expression_cn F n).Ok Tryd.prog ∧ (arith_parser_condition_cn F n).Ok Tryd.prog ∧ (arith_parser_operation_cn F n).Ok Tryd.prog ∧ (arith_parser_unary_cn F n).Ok Tryd.prog ∧ (arith_parser_primary_cn F n).Ok Tryd.prog) : (arith_parser_expression_cn F (n + 1)).Ok Tryd.prog := Ctr.ok_of (X := ⟨Tryd.prog, tyT, [arith_parser_condition_cn F n, arith_parser_after_c F, arith_assignment_c F, arith_parser_variable_c F, arith_parser_advance_c F, arith_parser_expression_cn F n]⟩) (F := F) ⟨E_ok, okC h.2.1 (okC (arith_parser_after_ok F) (okC (arith_assignment_ok F) (okC (arith_parser_variable_ok F) (okC (arith_parser_advance_ok F) (okC h.1 (okN)))))), mixed⟩ (pl := arith_parser_expression_p) Tryd.func26 (by kernel_rfl) (fun x => by kernel_rfl)
theorem arith_parser_condition_st (F n : Nat) (h : (arith_parser_expression_cn F n).Ok Tryd.prog ∧ (arith_parser_condition_cn F n).Ok Tryd.prog ∧ (arith_parser_operation_cn F n).Ok Tryd.prog ∧ (arith_parser_unary_cn F n).Ok Tryd.prog ∧ (arith_parser_primary_cn F n).Ok Tryd.prog) : (arith_parser_condition_cn F (n + 1)).Ok Tryd.prog := Ctr.ok_of (X := ⟨Tryd.prog, tyT, [arith_parser_operation_cn F n, arith_parser_sees_c F, arith_parser_advance_c F, arith_parser_expression_cn F n, arith_parser_expect_c F, arith_parser_condition_cn F n]⟩) (F := F) ⟨E_ok, okC h.2.2.1 (okC (arith_parser_sees_ok F) (okC (arith_parser_advance_ok F) (okC h.1 (okC (arith_parser_expect_ok F) (okC h.2.1 (okN)))))), mixed⟩ (pl := arith_parser_condition_p) Tryd.func47 (by kernel_rfl) (fun x => by kernel_rfl)
theorem arith_parser_operation_st (F n : Nat) (h : (arith_parser_expression_cn F n).Ok Tryd.prog ∧ (arith_parser_condition_cn F n).Ok Tryd.prog ∧ (arith_parser_operation_cn F n).Ok Tryd.prog ∧ (arith_parser_unary_cn F n).Ok Tryd.prog ∧ (arith_parser_primary_cn F n).Ok Tryd.prog) : (arith_parser_operation_cn F (n + 1)).Ok Tryd.prog := Ctr.ok_of (X := ⟨Tryd.prog, tyT, [arith_parser_unary_cn F n, arith_parser_operator_c F, arith_parser_advance_c F, arith_parser_operation_cn F n]⟩) (F := F) ⟨E_ok, okC h.2.2.2.1 (okC (arith_parser_operator_ok F) (okC (arith_parser_advance_ok F) (okC h.2.2.1 (okN)))), mixed⟩ (pl := arith_parser_operation_p) Tryd.func72 (by kernel_rfl) (fun x => by kernel_rfl)
theorem arith_parser_unary_st (F n : Nat) (h : (arith_parser_expression_cn F n).Ok Tryd.prog ∧ (arith_parser_condition_cn F n).Ok Tryd.prog ∧ (arith_parser_operation_cn F n).Ok Tryd.prog ∧ (arith_parser_unary_cn F n).Ok Tryd.prog ∧ (arith_parser_primary_cn F n).Ok Tryd.prog) : (arith_parser_unary_cn F (n + 1)).Ok Tryd.prog := Ctr.ok_of (X := ⟨Tryd.prog, tyT, [arith_parser_sees_c F, arith_parser_primary_cn F n, arith_parser_advance_c F, arith_parser_unary_cn F n]⟩) (F := F) ⟨E_ok, okC (arith_parser_sees_ok F) (okC h.2.2.2.2 (okC (arith_parser_advance_ok F) (okC h.2.2.2.1 (okN)))), mixed⟩ (pl := arith_parser_unary_p) Tryd.func90 (by kernel_rfl) (fun x => by kernel_rfl)
theorem arith_parser_primary_st (F n : Nat) (h : (arith_parser_expression_cn F n).Ok Tryd.prog ∧ (arith_parser_condition_cn F n).Ok Tryd.prog ∧ (arith_parser_operation_cn F n).Ok Tryd.prog ∧ (arith_parser_unary_cn F n).Ok Tryd.prog ∧ (arith_parser_primary_cn F n).Ok Tryd.prog) : (arith_parser_primary_cn F (n + 1)).Ok Tryd.prog := Ctr.ok_of (X := ⟨Tryd.prog, tyT, [arith_value_c F, arith_parser_advance_c F, arith_parser_variable_c F, arith_parser_expect_c F, arith_parser_expression_cn F n]⟩) (F := F) ⟨E_ok, okC (arith_value_ok F) (okC (arith_parser_advance_ok F) (okC (arith_parser_variable_ok F) (okC (arith_parser_expect_ok F) (okC h.1 (okN))))), mixed⟩ (pl := arith_parser_primary_p) Tryd.func99 (by kernel_rfl) (fun x => by kernel_rfl)
theorem arith_parser_expression_okn (F : Nat) : ∀ n, (arith_parser_expression_cn F n).Ok Tryd.prog ∧ (arith_parser_condition_cn F n).Ok Tryd.prog ∧ (arith_parser_operation_cn F n).Ok Tryd.prog ∧ (arith_parser_unary_cn F n).Ok Tryd.prog ∧ (arith_parser_primary_cn F n).Ok Tryd.prog
  | 0 => ⟨(fun x y h => nomatch (show none = some y from h)), (fun x y h => nomatch (show none = some y from h)), (fun x y h => nomatch (show none = some y from h)), (fun x y h => nomatch (show none = some y from h)), (fun x y h => nomatch (show none = some y from h))⟩
  | n + 1 => by
    have h := arith_parser_expression_okn F n
    exact ⟨arith_parser_expression_st F n h,
      arith_parser_condition_st F n h,
      arith_parser_operation_st F n h,
      arith_parser_unary_st F n h,
      arith_parser_primary_st F n h⟩
theorem arith_parser_expression_ok (F : Nat) : (arith_parser_expression_c F).Ok Tryd.prog := (arith_parser_expression_okn F F).1
theorem arith_parser_condition_ok (F : Nat) : (arith_parser_condition_c F).Ok Tryd.prog := (arith_parser_expression_okn F F).2.1
theorem arith_parser_operation_ok (F : Nat) : (arith_parser_operation_c F).Ok Tryd.prog := (arith_parser_expression_okn F F).2.2.1
theorem arith_parser_unary_ok (F : Nat) : (arith_parser_unary_c F).Ok Tryd.prog := (arith_parser_expression_okn F F).2.2.2.1
theorem arith_parser_primary_ok (F : Nat) : (arith_parser_primary_c F).Ok Tryd.prog := (arith_parser_expression_okn F F).2.2.2.2
/- jobshell/arith.depth -/
def arith_depth_m (F : Nat) (r_arith_depth : TExpr → Option Int) (a0 : TExpr) : Option Int :=
 loopF (σ := Int × Int) (R := Int) (fun rc2 x1 =>
 cond (decide (x1.2 < (a0.fKids.length : Int)))
 (rq ((decide (0 ≤ x1.2)) && (decide (x1.2 < (a0.fKids.length : Int)))) ((r_arith_depth (TExpr.mk ((a0.fKids.getD (Int.toNat x1.2) dTExpr).fOp) ((a0.fKids.getD (Int.toNat x1.2) dTExpr).fN) ((a0.fKids.getD (Int.toNat x1.2) dTExpr).fName) ((a0.fKids.getD (Int.toNat x1.2) dTExpr).fKids))).bind fun x3 =>
 rc2 (cond (decide (x1.1 < x3)) x3 x1.1, w64 (x1.2 + 1))))
 (some (w64 (x1.1 + 1)))) F (0, 0)
def arith_depth_s : Shp := ⟨28, [.one (.dat (.ext 0))], [], [], ⟨.one (.dat (.int .i64)), [], []⟩, none⟩
def arith_depth_p : Plan := .seq [] none (.leaf) (.seq [] none (.leaf) (.seq [] none (.seq [] none (.leaf) (.loop [] ⟨[(3, .one (.dat (.int .i64))), (9, .one (.dat (.int .i64)))], [none], []⟩ (.leaf))) (.leaf)))
def arith_depth_n (F : Nat) : Nat → TExpr → Option Int
  | 0 => fun _ => none
  | n + 1 => arith_depth_m F (arith_depth_n F n)
def arith_depth (F : Nat) (a0 : TExpr) : Option Int := arith_depth_n F F a0
def arith_depth_cn (F n : Nat) : Ctr E := ⟨arith_depth_s, fun (x : TExpr) => arith_depth_n F n x⟩
def arith_depth_c (F : Nat) : Ctr E := ⟨arith_depth_s, fun (x : TExpr) => arith_depth F x⟩
theorem arith_depth_st (F n : Nat) (h : (arith_depth_cn F n).Ok Tryd.prog) : (arith_depth_cn F (n + 1)).Ok Tryd.prog := Ctr.ok_of (X := ⟨Tryd.prog, tyT, [arith_depth_cn F n]⟩) (F := F) ⟨E_ok, okC h (okN), mixed⟩ (pl := arith_depth_p) Tryd.func28 (by kernel_rfl) (fun x => by kernel_rfl)
theorem arith_depth_okn (F : Nat) : ∀ n, (arith_depth_cn F n).Ok Tryd.prog
  | 0 => (fun x y h => nomatch (show none = some y from h))
  | n + 1 => by
    have h := arith_depth_okn F n
    exact arith_depth_st F n h
theorem arith_depth_ok (F : Nat) : (arith_depth_c F).Ok Tryd.prog := (arith_depth_okn F F)
/- jobshell/arith.Parse$1 -/
def arith_Parse_1 (F : Nat)  (a0 : Tfault) (a1 : Int) (a2 : Int) (a3 : List UInt8) (a4 : List TExpr) (a5 : Int) (a6 : Int) : Option (Int × Int × (List UInt8) × (List TExpr) × Int × Int) :=
 some ((TExpr.mk 0 0 [] []).fOp, (TExpr.mk 0 0 [] []).fN, (TExpr.mk 0 0 [] []).fName, (TExpr.mk 0 0 [] []).fKids, a0.fat, a0.ferr)
def arith_Parse_1_s : Shp := ⟨24, [.one (.iface 44 (.ext 1)), .one (.ptr 0 0), .one (.ptr 1 0), .one (.ptr 2 0)], [.cells 26 [.dat (.int .i64), .dat (.int .i64), .dat .str, .gsl 0 (.ext 0)], .cells 3 [.dat (.int .i64)], .cells 27 [.dat (.int .i64)]], [(26, 4)], ⟨.tup [], [some (.cells 26 [.dat (.int .i64), .dat (.int .i64), .dat .str, .dat (.lst (.ext 0))]), some (.cells 3 [.dat (.int .i64)]), some (.cells 27 [.dat (.int .i64)])], [none]⟩, none⟩
def arith_Parse_1_p : Plan := .seq [] none (.leaf) (.cond (.seq [] none (.leaf) (.seq [] none (.leaf) (.seq [] none (.leaf) (.cond (.drawP [3] [] [⟨[(0, true), (1, true), (2, true), (3, true), (4, false), (5, false)], none⟩]) (.leaf))))) (.leaf))
def arith_Parse_1_c (F : Nat) : Ctr E := ⟨arith_Parse_1_s, fun (x : Tfault × Int × Int × (List UInt8) × (List TExpr) × Int × Int) => arith_Parse_1 F x.1 x.2.1 x.2.2.1 x.2.2.2.1 x.2.2.2.2.1 x.2.2.2.2.2.1 x.2.2.2.2.2.2⟩
theorem arith_Parse_1_okR (F : Nat) : (arith_Parse_1_c F).GOk (CallsR Tryd.prog) := Ctr.okR_of (X := ⟨Tryd.prog, tyT, []⟩) (F := F) ⟨E_ok, okN, mixed⟩ (pl := arith_Parse_1_p) Tryd.func24 (by kernel_rfl) (fun x => by kernel_rfl)
/- jobshell/arith.Parse$1 -/
def arith_Parse_1_1 (F : Nat)  (a0 : Int) (a1 : Int) (a2 : List UInt8) (a3 : List TExpr) (a4 : Int) (a5 : Int) : Option Unit :=
 some ()
def arith_Parse_1_1_s : Shp := ⟨24, [.one (.nil .iface), .one (.ptr 0 0), .one (.ptr 1 0), .one (.ptr 2 0)], [.cells 26 [.dat (.int .i64), .dat (.int .i64), .dat .str, .dat (.lst (.ext 0))], .cells 3 [.dat (.int .i64)], .cells 27 [.dat (.int .i64)]], [], ⟨.tup [], [none, none, none], []⟩, none⟩
def arith_Parse_1_1_p : Plan := .seq [] none (.leaf) (.cond (.seq [] none (.leaf) (.seq [] none (.leaf) (.seq [] none (.leaf) (.cond (.draw []) (.leaf))))) (.leaf))
def arith_Parse_1_1_c (F : Nat) : Ctr E := ⟨arith_Parse_1_1_s, fun (x : Int × Int × (List UInt8) × (List TExpr) × Int × Int) => arith_Parse_1_1 F x.1 x.2.1 x.2.2.1 x.2.2.2.1 x.2.2.2.2.1 x.2.2.2.2.2⟩
theorem arith_Parse_1_1_okR (F : Nat) : (arith_Parse_1_1_c F).GOk (CallsR Tryd.prog) := Ctr.okR_of (X := ⟨Tryd.prog, tyT, []⟩) (F := F) ⟨E_ok, okN, mixed⟩ (pl := arith_Parse_1_1_p) Tryd.func24 (by kernel_rfl) (fun x => by kernel_rfl)
/- jobshell/arith.Parse$1 -/
def arith_Parse_1_2 (F : Nat)  (a0 : Tfault) (a1 : Int) (a2 : Int) (a3 : List UInt8) (a4 : List TExpr) (a5 : Int) (a6 : Int) : Option (Int × Int × (List UInt8) × (List TExpr) × Int × Int) :=
 some ((TExpr.mk 0 0 [] []).fOp, (TExpr.mk 0 0 [] []).fN, (TExpr.mk 0 0 [] []).fName, (TExpr.mk 0 0 [] []).fKids, a0.fat, a0.ferr)
def arith_Parse_1_2_s : Shp := ⟨24, [.one (.iface 44 (.ext 1)), .one (.ptr 0 0), .one (.ptr 1 0), .one (.ptr 2 0)], [.cells 26 [.dat (.int .i64), .dat (.int .i64), .dat .str, .dat (.lst (.ext 0))], .cells 3 [.dat (.int .i64)], .cells 27 [.dat (.int .i64)]], [], ⟨.tup [], [some (.cells 26 [.dat (.int .i64), .dat (.int .i64), .dat .str, .dat (.lst (.ext 0))]), some (.cells 3 [.dat (.int .i64)]), some (.cells 27 [.dat (.int .i64)])], []⟩, none⟩
def arith_Parse_1_2_p : Plan := .seq [] none (.leaf) (.cond (.seq [] none (.leaf) (.seq [] none (.leaf) (.seq [] none (.leaf) (.cond (.drawP [3] [] [⟨[(0, true), (1, true), (2, true), (3, true), (4, false), (5, false)], none⟩]) (.leaf))))) (.leaf))
def arith_Parse_1_2_c (F : Nat) : Ctr E := ⟨arith_Parse_1_2_s, fun (x : Tfault × Int × Int × (List UInt8) × (List TExpr) × Int × Int) => arith_Parse_1_2 F x.1 x.2.1 x.2.2.1 x.2.2.2.1 x.2.2.2.2.1 x.2.2.2.2.2.1 x.2.2.2.2.2.2⟩
theorem arith_Parse_1_2_okR (F : Nat) : (arith_Parse_1_2_c F).GOk (CallsR Tryd.prog) := Ctr.okR_of (X := ⟨Tryd.prog, tyT, []⟩) (F := F) ⟨E_ok, okN, mixed⟩ (pl := arith_Parse_1_2_p) Tryd.func24 (by kernel_rfl) (fun x => by kernel_rfl)
/- jobshell/arith.Parse -/
def arith_Parse (F : Nat)  (a0 : List UInt8) : Option (TExpr × Int × Int) :=
 cond (decide (4096 < (a0.length : Int)))
 ((arith_Parse_1 F (Tfault.mk 0 3) 0 0 [] ([] : List TExpr) 0 0).bind fun x1 =>
 some ((TExpr.mk x1.1 x1.2.1 x1.2.2.1 x1.2.2.2.1), x1.2.2.2.2.1, x1.2.2.2.2.2))
 ((arith_scan F a0 0).bind fun x2 =>
 cond ((((Tparser.mk a0 x2).ftok).fkind) == 0)
 ((arith_Parse_1_1 F ((TExpr.mk 1 0 [] []).fOp) ((TExpr.mk 1 0 [] []).fN) ((TExpr.mk 1 0 [] []).fName) ((TExpr.mk 1 0 [] []).fKids) 0 0).bind fun _ =>
 some ((TExpr.mk ((TExpr.mk 1 0 [] []).fOp) ((TExpr.mk 1 0 [] []).fN) ((TExpr.mk 1 0 [] []).fName) ((TExpr.mk 1 0 [] []).fKids)), 0, 0))
 ((arith_parser_expression F ((Tparser.mk a0 x2).fs) (((Tparser.mk a0 x2).ftok).fkind) (((Tparser.mk a0 x2).ftok).fpos) (((Tparser.mk a0 x2).ftok).ftext)).bind (sm (fun x4 =>
 jj (σ := Unit) (R := TExpr × Int × Int) (cond (x4.2.2.1 != 0)
 ((arith_parser_reject F x4.2.1 x4.2.2.1 x4.2.2.2.1 x4.2.2.2.2).bind (sm (fun _ =>
 some (.inl ())) (fun x7 => retK ((arith_Parse_1_2 F x7 x4.1.fOp x4.1.fN x4.1.fName x4.1.fKids 0 0).bind fun x8 =>
 some ((TExpr.mk x8.1 x8.2.1 x8.2.2.1 x8.2.2.2.1), x8.2.2.2.2.1, x8.2.2.2.2.2)))))
 (some (.inl ()))) fun _ =>
 (arith_depth F (TExpr.mk x4.1.fOp x4.1.fN x4.1.fName x4.1.fKids)).bind fun x9 =>
 cond (decide (32 < x9))
 ((arith_Parse_1_2 F (Tfault.mk 0 5) x4.1.fOp x4.1.fN x4.1.fName x4.1.fKids 0 0).bind fun x10 =>
 some ((TExpr.mk x10.1 x10.2.1 x10.2.2.1 x10.2.2.2.1), x10.2.2.2.2.1, x10.2.2.2.2.2))
 ((arith_Parse_1_1 F ((TExpr.mk x4.1.fOp x4.1.fN x4.1.fName x4.1.fKids).fOp) ((TExpr.mk x4.1.fOp x4.1.fN x4.1.fName x4.1.fKids).fN) ((TExpr.mk x4.1.fOp x4.1.fN x4.1.fName x4.1.fKids).fName) ((TExpr.mk x4.1.fOp x4.1.fN x4.1.fName x4.1.fKids).fKids) 0 0).bind fun _ =>
 some ((TExpr.mk ((TExpr.mk x4.1.fOp x4.1.fN x4.1.fName x4.1.fKids).fOp) ((TExpr.mk x4.1.fOp x4.1.fN x4.1.fName x4.1.fKids).fN) ((TExpr.mk x4.1.fOp x4.1.fN x4.1.fName x4.1.fKids).fName) ((TExpr.mk x4.1.fOp x4.1.fN x4.1.fName x4.1.fKids).fKids)), 0, 0))) (fun x12 => (arith_Parse_1 F x12.1 0 0 [] ([] : List TExpr) 0 0).bind fun x13 =>
 some ((TExpr.mk x13.1 x13.2.1 x13.2.2.1 x13.2.2.2.1), x13.2.2.2.2.1, x13.2.2.2.2.2)))))
def arith_Parse_s : Shp := ⟨12, [.one (.dat .str)], [], [], ⟨.tup [.dat (.ext 0), .dat (.int .i64), .dat (.int .i64)], [], []⟩, none⟩
def arith_Parse_p : Plan := .seq [] none (.leaf) (.seq [] none (.leaf) (.seq [.cell 0 3 26 (.ext 0)] none (.leaf) (.seq [] none (.leaf) (.seq [] none (.leaf) (.seq [] none (.leaf) (.seq [] (some (⟨[], [none, none, none, none], [none]⟩, true)) (.leaf) (.leaf)))))))
def arith_Parse_c (F : Nat) : Ctr E := ⟨arith_Parse_s, fun (x : List UInt8) => arith_Parse F x⟩
theorem arith_Parse_ok (F : Nat) : (arith_Parse_c F).Ok Tryd.prog := Ctr.ok_ofD (X := ⟨Tryd.prog, tyT, [arith_scan_c F, arith_parser_expression_c F, arith_parser_reject_c F, arith_depth_c F]⟩) (F := F) ⟨E_ok, okC (arith_scan_ok F) (okC (arith_parser_expression_ok F) (okC (arith_parser_reject_ok F) (okC (arith_depth_ok F) (okN)))), mixed⟩ (D := ⟨[], [arith_Parse_1_c F, arith_Parse_1_1_c F, arith_Parse_1_2_c F]⟩) ⟨goN, goC (arith_Parse_1_okR F) (goC (arith_Parse_1_1_okR F) (goC (arith_Parse_1_2_okR F) (goN)))⟩ (pl := arith_Parse_p) Tryd.func12 (by kernel_rfl) (fun x => by kernel_rfl)
/- jobshell/arith.describe -/
def arith_describe (F : Nat)  (a0 : Int) : Option (Int × (List UInt8)) :=
 (cond (a0 == 1)
 (some (a0 == 1))
 (some (a0 == 2)) : Option Bool).bind fun x1 =>
 cond x1
 (some (14, []))
 (cond (a0 == 3)
 (some (13, ([45] : List UInt8)))
 (cond (a0 == 4)
 (some (13, ([43] : List UInt8)))
 (cond (a0 == 5)
 (some (13, ([33] : List UInt8)))
 (cond (a0 == 6)
 (some (13, ([126] : List UInt8)))
 (cond (a0 == 25)
 (some (2, ([63] : List UInt8)))
 (cond (a0 == 26)
 (some (1, ([61] : List UInt8)))
 ((arith_binaries F).bind fun x2 =>
 loopF (σ := Int) (R := Int × (List UInt8)) (fun rc4 x3 =>
 cond (decide (x3 < (x2.length : Int)))
 (rq ((decide (0 ≤ x3)) && (decide (x3 < (x2.length : Int)))) (cond (((x2.getD (Int.toNat x3) dTbinary).fop) == a0)
 (some ((x2.getD (Int.toNat x3) dTbinary).flevel, (x2.getD (Int.toNat x3) dTbinary).fsymbol))
 (rc4 (w64 (x3 + 1)))))
 (some (0, []))) F 0)))))))
def arith_describe_s : Shp := ⟨58, [.one (.dat (.int .i64))], [], [], ⟨.tup [.dat (.int .i64), .dat .str], [], []⟩, none⟩
def arith_describe_p : Plan := .seq [] none (.leaf) (.seq [] none (.seq [] none (.leaf) (.seq [] (some (⟨[(7, .one (.dat .bool))], [], []⟩, false)) (.leaf) (.leaf))) (.seq [] none (.seq [] none (.leaf) (.loop [] ⟨[(24, .one (.dat (.int .i64)))], [], []⟩ (.seq [] none (.leaf) (.seq [] none (.leaf) (.seq [] none (.seq [] none (.leaf) (.seq [] none (.leaf) (.cond (.seq [] none (.draw [⟨true, 6, none⟩]) (.leaf)) (.leaf)))) (.leaf)))))) (.leaf)))
def arith_describe_c (F : Nat) : Ctr E := ⟨arith_describe_s, fun (x : Int) => arith_describe F x⟩
theorem arith_describe_ok (F : Nat) : (arith_describe_c F).Ok Tryd.prog := Ctr.ok_of (X := ⟨Tryd.prog, tyT, [arith_binaries_c F]⟩) (F := F) ⟨E_ok, okC (arith_binaries_ok F) (okN), mixed⟩ (pl := arith_describe_p) Tryd.func58 (by kernel_rfl) (fun x => by kernel_rfl)
/- jobshell/arith.valid -/
def arith_valid_m (F : Nat) (r_arith_valid : TExpr → Int → Option Int) (a0 : TExpr) (a1 : Int) : Option Int :=
 cond (a1 == 32)
 (some 5)
 ((arith_describe F a0.fOp).bind fun x1 =>
 jj (σ := Int) (R := Int) (cond (x1.1 == 0)
 (some (.inr 1))
 ((cond (x1.1 == 1)
 (some (x1.1 == 1))
 (some (x1.1 == 13)) : Option Bool).bind fun x3 =>
 cond x3
 (some (.inl 1))
 (cond (x1.1 == 2)
 (some (.inl 3))
 (cond (x1.1 == 14)
 (some (.inl 0))
 (some (.inl 2)))))) fun x2 =>
 (cond (a0.fOp == 2)
 (some true)
 (some (a0.fOp == 26)) : Option Bool).bind fun x4 =>
 (cond (a0.fOp == 1)
 (some (decide (0 ≤ a0.fN)))
 (cond (a0.fOp == 26)
 ((cond (a0.fN == 0)
 (some true)
 ((arith_compound F a0.fN).bind fun x7 =>
 some x7) : Option Bool).bind fun x6 =>
 some x6)
 (some (a0.fN == 0))) : Option Bool).bind fun x5 =>
 (cond ((a0.fKids.length : Int) != x2)
 (some true)
 (some (!x5)) : Option Bool).bind fun x8 =>
 (cond x8
 (some true)
 (some (!(x4 == (!(a0.fName == []))))) : Option Bool).bind fun x9 =>
 cond x9
 (some 1)
 ((cond x4
 ((chars_Name F a0.fName).bind fun x11 =>
 some (!x11))
 (some false) : Option Bool).bind fun x10 =>
 cond x10
 (some 10)
 (loopF (σ := Int) (R := Int) (fun rc13 x12 =>
 cond (decide (x12 < (a0.fKids.length : Int)))
 (rq ((decide (0 ≤ x12)) && (decide (x12 < (a0.fKids.length : Int)))) ((r_arith_valid (TExpr.mk ((a0.fKids.getD (Int.toNat x12) dTExpr).fOp) ((a0.fKids.getD (Int.toNat x12) dTExpr).fN) ((a0.fKids.getD (Int.toNat x12) dTExpr).fName) ((a0.fKids.getD (Int.toNat x12) dTExpr).fKids)) (w64 (a1 + 1))).bind fun x14 =>
 cond (x14 != 0)
 (some x14)
 (rc13 (w64 (x12 + 1)))))
 (some 0)) F 0)))
def arith_valid_s : Shp := ⟨38, [.one (.dat (.ext 0)), .one (.dat (.int .i64))], [], [], ⟨.one (.dat (.int .i64)), [], []⟩, none⟩
def arith_valid_p : Plan := .seq [] none (.leaf) (.seq [] none (.leaf) (.seq [] none (.leaf) (.seq [] none (.leaf) (.seq [] (some (⟨[(7, .one (.dat (.int .i64)))], [none], []⟩, true)) (.seq [] none (.leaf) (.seq [] none (.leaf) (.cond (.leaf) (.seq [] (some (⟨[(24, .one (.dat .bool))], [none], []⟩, false)) (.leaf) (.leaf))))) (.seq [] none (.region [(8, ⟨[(38, .one (.dat .bool))], [none], []⟩, false)]) (.seq [] none (.leaf) (.seq [] (some (⟨[(9, .one (.dat .bool))], [none], []⟩, false)) (.seq [] none (.leaf) (.seq [] none (.leaf) (.cond (.leaf) (.seq [] none (.leaf) (.cond (.region [(8, ⟨[(58, .one (.dat .bool))], [none], []⟩, false)]) (.leaf)))))) (.seq [] none (.seq [] none (.region [(9, ⟨[(67, .one (.dat .bool))], [none], []⟩, false), (7, ⟨[(74, .one (.dat .bool))], [none], []⟩, false)]) (.leaf)) (.seq [] none (.seq [] none (.region [(7, ⟨[(81, .one (.dat .bool))], [none], []⟩, false)]) (.leaf)) (.seq [] none (.seq [] none (.leaf) (.loop [] ⟨[(85, .one (.dat (.int .i64)))], [none], []⟩ (.leaf))) (.leaf)))))))))))
def arith_valid_n (F : Nat) : Nat → TExpr → Int → Option Int
  | 0 => fun _ _ => none
  | n + 1 => arith_valid_m F (arith_valid_n F n)
def arith_valid (F : Nat) (a0 : TExpr) (a1 : Int) : Option Int := arith_valid_n F F a0 a1
def arith_valid_cn (F n : Nat) : Ctr E := ⟨arith_valid_s, fun (x : TExpr × Int) => arith_valid_n F n x.1 x.2⟩
def arith_valid_c (F : Nat) : Ctr E := ⟨arith_valid_s, fun (x : TExpr × Int) => arith_valid F x.1 x.2⟩
theorem arith_valid_st (F n : Nat) (h : (arith_valid_cn F n).Ok Tryd.prog) : (arith_valid_cn F (n + 1)).Ok Tryd.prog := Ctr.ok_of (X := ⟨Tryd.prog, tyT, [arith_describe_c F, arith_compound_c F, chars_Name_c F, arith_valid_cn F n]⟩) (F := F) ⟨E_ok, okC (arith_describe_ok F) (okC (arith_compound_ok F) (okC (chars_Name_ok F) (okC h (okN)))), mixed⟩ (pl := arith_valid_p) Tryd.func38 (by kernel_rfl) (fun x => by kernel_rfl)
theorem arith_valid_okn (F : Nat) : ∀ n, (arith_valid_cn F n).Ok Tryd.prog
  | 0 => (fun x y h => nomatch (show none = some y from h))
  | n + 1 => by
    have h := arith_valid_okn F n
    exact arith_valid_st F n h
theorem arith_valid_ok (F : Nat) : (arith_valid_c F).Ok Tryd.prog := (arith_valid_okn F F)
/- jobshell/arith.Valid -/
def arith_Valid (F : Nat)  (a0 : TExpr) : Option Int :=
 (arith_valid F (TExpr.mk a0.fOp a0.fN a0.fName a0.fKids) 0).bind fun x1 =>
 some x1
def arith_Valid_s : Shp := ⟨18, [.one (.dat (.ext 0))], [], [], ⟨.one (.dat (.int .i64)), [], []⟩, none⟩
def arith_Valid_p : Plan := .leaf
def arith_Valid_c (F : Nat) : Ctr E := ⟨arith_Valid_s, fun (x : TExpr) => arith_Valid F x⟩
theorem arith_Valid_ok (F : Nat) : (arith_Valid_c F).Ok Tryd.prog := Ctr.ok_of (X := ⟨Tryd.prog, tyT, [arith_valid_c F]⟩) (F := F) ⟨E_ok, okC (arith_valid_ok F) (okN), mixed⟩ (pl := arith_Valid_p) Tryd.func18 (by kernel_rfl) (fun x => by kernel_rfl)
/- (*strings.Builder).copyCheck -/
def strings_Builder_copyCheck (F : Nat)  (a0 : Bool) (a1 : List Int) : Option (Bool × (List Int)) :=
 cond (!a0)
 ((neF F).bind fun _ =>
 some (true, a1))
 (cond (!a0)
 (none)
 (some (a0, a1)))
def strings_Builder_copyCheck_s : Shp := ⟨84, [.one (.ptr 0 0)], [.cells 61 [.optr 0 0, .gsl 0 (.int .u8)]], [(5, 1)], ⟨.tup [], [some (.cells 61 [.optr 0 0, .gsl 0 (.int .u8)])], [none]⟩, none⟩
def strings_Builder_copyCheck_p : Plan := .leaf
def strings_Builder_copyCheck_c (F : Nat) : Ctr E := ⟨strings_Builder_copyCheck_s, fun (x : Bool × (List Int)) => strings_Builder_copyCheck F x.1 x.2⟩
theorem strings_Builder_copyCheck_ok (F : Nat) : (strings_Builder_copyCheck_c F).Ok Tryd.prog := Ctr.ok_of (X := ⟨Tryd.prog, tyT, [noEscape_c F]⟩) (F := F) ⟨E_ok, okC (noEscape_ok F) (okN), mixed⟩ (pl := strings_Builder_copyCheck_p) Tryd.func84 (by kernel_rfl) (fun x => by kernel_rfl)
/- (*strings.Builder).WriteByte -/
def strings_Builder_WriteByte (F : Nat)  (a0 : Int) (a1 : Bool) (a2 : List Int) : Option (Bool × (List Int)) :=
 (strings_Builder_copyCheck F a1 a2).bind fun x1 =>
 rq ((decide (x1.2.length + ([a0] : List Int).length ≤ 9223372036854775807)) && (decide ((x1.2.length + ([a0] : List Int).length) * 1 ≤ 140737488355328))) (some (x1.1, x1.2 ++ ([a0] : List Int)))
def strings_Builder_WriteByte_s : Shp := ⟨59, [.one (.ptr 0 0), .one (.dat (.int .u8))], [.cells 61 [.optr 0 0, .gsl 0 (.int .u8)]], [(5, 1)], ⟨.one (.nil .iface), [some (.cells 61 [.optr 0 0, .gsl 0 (.int .u8)])], [some (5, 1)]⟩, none⟩
def strings_Builder_WriteByte_p : Plan := .leaf
def strings_Builder_WriteByte_c (F : Nat) : Ctr E := ⟨strings_Builder_WriteByte_s, fun (x : Int × Bool × (List Int)) => strings_Builder_WriteByte F x.1 x.2.1 x.2.2⟩
theorem strings_Builder_WriteByte_okO (F : Nat) : (strings_Builder_WriteByte_c F).GOk (CallsO Tryd.prog) := Ctr.okO_of (X := ⟨Tryd.prog, tyT, [strings_Builder_copyCheck_c F]⟩) (F := F) ⟨E_ok, okC (strings_Builder_copyCheck_ok F) (okN), mixed⟩ (pl := strings_Builder_WriteByte_p) Tryd.func59 (by kernel_rfl) (fun x => by kernel_rfl)
theorem strings_Builder_WriteByte_ok (F : Nat) : (strings_Builder_WriteByte_c F).Ok Tryd.prog := Ctr.ok_of (X := ⟨Tryd.prog, tyT, [strings_Builder_copyCheck_c F]⟩) (F := F) ⟨E_ok, okC (strings_Builder_copyCheck_ok F) (okN), mixed⟩ (pl := strings_Builder_WriteByte_p) Tryd.func59 (by kernel_rfl) (fun x => by kernel_rfl)
/- (*strings.Builder).WriteString -/
def strings_Builder_WriteString (F : Nat)  (a0 : List UInt8) (a1 : Bool) (a2 : List Int) : Option (Int × Bool × (List Int)) :=
 (strings_Builder_copyCheck F a1 a2).bind fun x1 =>
 rq ((decide (x1.2.length + (toInts a0).length ≤ 9223372036854775807)) && (decide ((x1.2.length + (toInts a0).length) * 1 ≤ 140737488355328))) (some ((a0.length : Int), x1.1, x1.2 ++ (toInts a0)))
def strings_Builder_WriteString_s : Shp := ⟨60, [.one (.ptr 0 0), .one (.dat .str)], [.cells 61 [.optr 0 0, .gsl 0 (.int .u8)]], [(5, 1)], ⟨.tup [.dat (.int .i64), .nil .iface], [some (.cells 61 [.optr 0 0, .gsl 0 (.int .u8)])], [some (5, 1)]⟩, none⟩
def strings_Builder_WriteString_p : Plan := .leaf
def strings_Builder_WriteString_c (F : Nat) : Ctr E := ⟨strings_Builder_WriteString_s, fun (x : (List UInt8) × Bool × (List Int)) => strings_Builder_WriteString F x.1 x.2.1 x.2.2⟩
theorem strings_Builder_WriteString_ok (F : Nat) : (strings_Builder_WriteString_c F).Ok Tryd.prog := Ctr.ok_of (X := ⟨Tryd.prog, tyT, [strings_Builder_copyCheck_c F]⟩) (F := F) ⟨E_ok, okC (strings_Builder_copyCheck_ok F) (okN), mixed⟩ (pl := strings_Builder_WriteString_p) Tryd.func60 (by kernel_rfl) (fun x => by kernel_rfl)
/- jobshell/arith.write -/
def arith_write_m (F : Nat) (r_arith_write : TExpr → Int → Bool → (List Int) → Option (Bool × (List Int))) (a0 : TExpr) (a1 : Int) (a2 : Bool) (a3 : List Int) : Option (Bool × (List Int)) :=
 (arith_describe F a0.fOp).bind fun x1 =>
 cond (decide (x1.1 < a1))
 ((strings_Builder_WriteByte F 40 a2 a3).bind fun x2 =>
 cond (x1.1 == 1)
 ((arith_describe F a0.fN).bind fun x3 =>
 rq (decide (a0.fName.length + ([32] : List UInt8).length ≤ 9223372036854775807)) (rq (decide ((a0.fName ++ ([32] : List UInt8)).length + x3.2.length ≤ 9223372036854775807)) (rq (decide (((a0.fName ++ ([32] : List UInt8)) ++ x3.2).length + ([61, 32] : List UInt8).length ≤ 9223372036854775807)) ((strings_Builder_WriteString F (((a0.fName ++ ([32] : List UInt8)) ++ x3.2) ++ ([61, 32] : List UInt8)) x2.1 x2.2).bind fun x4 =>
 rq (decide (0 < (a0.fKids.length : Int))) ((r_arith_write (a0.fKids.getD 0 dTExpr) 1 x4.2.1 x4.2.2).bind fun x5 =>
 (strings_Builder_WriteByte F 41 x5.1 x5.2).bind fun x6 =>
 some (x6.1, x6.2))))))
 (cond (x1.1 == 2)
 (rq (decide (0 < (a0.fKids.length : Int))) ((r_arith_write (a0.fKids.getD 0 dTExpr) 3 x2.1 x2.2).bind fun x7 =>
 (strings_Builder_WriteString F ([32, 63, 32] : List UInt8) x7.1 x7.2).bind fun x8 =>
 rq (decide (1 < (a0.fKids.length : Int))) ((r_arith_write (a0.fKids.getD 1 dTExpr) 1 x8.2.1 x8.2.2).bind fun x9 =>
 (strings_Builder_WriteString F ([32, 58, 32] : List UInt8) x9.1 x9.2).bind fun x10 =>
 rq (decide (2 < (a0.fKids.length : Int))) ((r_arith_write (a0.fKids.getD 2 dTExpr) 2 x10.2.1 x10.2.2).bind fun x11 =>
 (strings_Builder_WriteByte F 41 x11.1 x11.2).bind fun x12 =>
 some (x12.1, x12.2)))))
 (cond (x1.1 == 13)
 ((strings_Builder_WriteString F x1.2 x2.1 x2.2).bind fun x13 =>
 rq (decide (0 < (a0.fKids.length : Int))) ((r_arith_write (a0.fKids.getD 0 dTExpr) 13 x13.2.1 x13.2.2).bind fun x14 =>
 (strings_Builder_WriteByte F 41 x14.1 x14.2).bind fun x15 =>
 some (x15.1, x15.2)))
 (cond (x1.1 == 14)
 (cond (a0.fOp == 1)
 ((itoaF F a0.fN).bind fun x16 =>
 (strings_Builder_WriteString F x16 x2.1 x2.2).bind fun x17 =>
 (strings_Builder_WriteByte F 41 x17.2.1 x17.2.2).bind fun x18 =>
 some (x18.1, x18.2))
 ((strings_Builder_WriteString F a0.fName x2.1 x2.2).bind fun x19 =>
 (strings_Builder_WriteByte F 41 x19.2.1 x19.2.2).bind fun x20 =>
 some (x20.1, x20.2)))
 (rq (decide (0 < (a0.fKids.length : Int))) ((r_arith_write (a0.fKids.getD 0 dTExpr) x1.1 x2.1 x2.2).bind fun x21 =>
 rq (decide (([32] : List UInt8).length + x1.2.length ≤ 9223372036854775807)) (rq (decide ((([32] : List UInt8) ++ x1.2).length + ([32] : List UInt8).length ≤ 9223372036854775807)) ((strings_Builder_WriteString F ((([32] : List UInt8) ++ x1.2) ++ ([32] : List UInt8)) x21.1 x21.2).bind fun x22 =>
 rq (decide (1 < (a0.fKids.length : Int))) ((r_arith_write (a0.fKids.getD 1 dTExpr) (w64 (x1.1 + 1)) x22.2.1 x22.2.2).bind fun x23 =>
 (strings_Builder_WriteByte F 41 x23.1 x23.2).bind fun x24 =>
 some (x24.1, x24.2))))))))))
 (cond (x1.1 == 1)
 ((arith_describe F a0.fN).bind fun x25 =>
 rq (decide (a0.fName.length + ([32] : List UInt8).length ≤ 9223372036854775807)) (rq (decide ((a0.fName ++ ([32] : List UInt8)).length + x25.2.length ≤ 9223372036854775807)) (rq (decide (((a0.fName ++ ([32] : List UInt8)) ++ x25.2).length + ([61, 32] : List UInt8).length ≤ 9223372036854775807)) ((strings_Builder_WriteString F (((a0.fName ++ ([32] : List UInt8)) ++ x25.2) ++ ([61, 32] : List UInt8)) a2 a3).bind fun x26 =>
 rq (decide (0 < (a0.fKids.length : Int))) ((r_arith_write (a0.fKids.getD 0 dTExpr) 1 x26.2.1 x26.2.2).bind fun x27 =>
 some (x27.1, x27.2))))))
 (cond (x1.1 == 2)
 (rq (decide (0 < (a0.fKids.length : Int))) ((r_arith_write (a0.fKids.getD 0 dTExpr) 3 a2 a3).bind fun x28 =>
 (strings_Builder_WriteString F ([32, 63, 32] : List UInt8) x28.1 x28.2).bind fun x29 =>
 rq (decide (1 < (a0.fKids.length : Int))) ((r_arith_write (a0.fKids.getD 1 dTExpr) 1 x29.2.1 x29.2.2).bind fun x30 =>
 (strings_Builder_WriteString F ([32, 58, 32] : List UInt8) x30.1 x30.2).bind fun x31 =>
 rq (decide (2 < (a0.fKids.length : Int))) ((r_arith_write (a0.fKids.getD 2 dTExpr) 2 x31.2.1 x31.2.2).bind fun x32 =>
 some (x32.1, x32.2)))))
 (cond (x1.1 == 13)
 ((strings_Builder_WriteString F x1.2 a2 a3).bind fun x33 =>
 rq (decide (0 < (a0.fKids.length : Int))) ((r_arith_write (a0.fKids.getD 0 dTExpr) 13 x33.2.1 x33.2.2).bind fun x34 =>
 some (x34.1, x34.2)))
 (cond (x1.1 == 14)
 (cond (a0.fOp == 1)
 ((itoaF F a0.fN).bind fun x35 =>
 (strings_Builder_WriteString F x35 a2 a3).bind fun x36 =>
 some (x36.2.1, x36.2.2))
 ((strings_Builder_WriteString F a0.fName a2 a3).bind fun x37 =>
 some (x37.2.1, x37.2.2)))
 (rq (decide (0 < (a0.fKids.length : Int))) ((r_arith_write (a0.fKids.getD 0 dTExpr) x1.1 a2 a3).bind fun x38 =>
 rq (decide (([32] : List UInt8).length + x1.2.length ≤ 9223372036854775807)) (rq (decide ((([32] : List UInt8) ++ x1.2).length + ([32] : List UInt8).length ≤ 9223372036854775807)) ((strings_Builder_WriteString F ((([32] : List UInt8) ++ x1.2) ++ ([32] : List UInt8)) x38.1 x38.2).bind fun x39 =>
 rq (decide (1 < (a0.fKids.length : Int))) ((r_arith_write (a0.fKids.getD 1 dTExpr) (w64 (x1.1 + 1)) x39.2.1 x39.2.2).bind fun x40 =>
 some (x40.1, x40.2))))))))))
def arith_write_s : Shp := ⟨34, [.one (.ptr 0 0), .one (.dat (.ext 0)), .one (.dat (.int .i64))], [.cells 61 [.optr 0 0, .gsl 0 (.int .u8)]], [(5, 1)], ⟨.tup [], [some (.cells 61 [.optr 0 0, .gsl 0 (.int .u8)])], [some (5, 1)]⟩, none⟩
def arith_write_p : Plan := .leaf
def arith_write_n (F : Nat) : Nat → TExpr → Int → Bool → (List Int) → Option (Bool × (List Int))
  | 0 => fun _ _ _ _ => none
  | n + 1 => arith_write_m F (arith_write_n F n)
def arith_write (F : Nat) (a0 : TExpr) (a1 : Int) (a2 : Bool) (a3 : List Int) : Option (Bool × (List Int)) := arith_write_n F F a0 a1 a2 a3
def arith_write_cn (F n : Nat) : Ctr E := ⟨arith_write_s, fun (x : TExpr × Int × Bool × (List Int)) => arith_write_n F n x.1 x.2.1 x.2.2.1 x.2.2.2⟩
def arith_write_c (F : Nat) : Ctr E := ⟨arith_write_s, fun (x : TExpr × Int × Bool × (List Int)) => arith_write F x.1 x.2.1 x.2.2.1 x.2.2.2⟩
theorem arith_write_st (F n : Nat) (h : (arith_write_cn F n).Ok Tryd.prog) : (arith_write_cn F (n + 1)).Ok Tryd.prog := Ctr.ok_ofD (X := ⟨Tryd.prog, tyT, [arith_describe_c F, strings_Builder_WriteByte_c F, strings_Builder_WriteString_c F, arith_write_cn F n, strconvItoa_c F]⟩) (F := F) ⟨E_ok, okC (arith_describe_ok F) (okC (strings_Builder_WriteByte_ok F) (okC (strings_Builder_WriteString_ok F) (okC h (okC (strconvItoa_ok F) (okN))))), mixed⟩ (D := ⟨[strings_Builder_WriteByte_c F], []⟩) ⟨goC (strings_Builder_WriteByte_okO F) (goN), goN⟩ (pl := arith_write_p) Tryd.func34 (by kernel_rfl) (fun x => by kernel_rfl)
theorem arith_write_okn (F : Nat) : ∀ n, (arith_write_cn F n).Ok Tryd.prog
  | 0 => (fun x y h => nomatch (show none = some y from h))
  | n + 1 => by
    have h := arith_write_okn F n
    exact arith_write_st F n h
theorem arith_write_ok (F : Nat) : (arith_write_c F).Ok Tryd.prog := (arith_write_okn F F)
/- (*strings.Builder).Len -/
def strings_Builder_Len (F : Nat)  (a0 : Bool) (a1 : List Int) : Option Int :=
 some (a1.length : Int)
def strings_Builder_Len_s : Shp := ⟨35, [.one (.ptr 0 0)], [.cells 61 [.optr 0 0, .gsl 0 (.int .u8)]], [(5, 1)], ⟨.one (.dat (.int .i64)), [none], [none]⟩, none⟩
def strings_Builder_Len_p : Plan := .leaf
def strings_Builder_Len_c (F : Nat) : Ctr E := ⟨strings_Builder_Len_s, fun (x : Bool × (List Int)) => strings_Builder_Len F x.1 x.2⟩
theorem strings_Builder_Len_ok (F : Nat) : (strings_Builder_Len_c F).Ok Tryd.prog := Ctr.ok_of (X := ⟨Tryd.prog, tyT, []⟩) (F := F) ⟨E_ok, okN, mixed⟩ (pl := strings_Builder_Len_p) Tryd.func35 (by kernel_rfl) (fun x => by kernel_rfl)
/- (*strings.Builder).String -/
def strings_Builder_String (F : Nat)  (a0 : Bool) (a1 : List Int) : Option (List UInt8) :=
 rq ((decide ((a1.length : Int) = (a1.length : Int))) && ((byteOk a1) && (decide (a1.length ≤ 9223372036854775807)))) (some (toBytes a1))
def strings_Builder_String_s : Shp := ⟨36, [.one (.ptr 0 0)], [.cells 61 [.optr 0 0, .gsl 0 (.int .u8)]], [(5, 1)], ⟨.one (.dat .str), [none], [some (5, 1)]⟩, none⟩
def strings_Builder_String_p : Plan := .seq [] none (.leaf) (.seq [] none (.draw [⟨true, 10, none⟩, ⟨false, 2, none⟩]) (.leaf))
def strings_Builder_String_c (F : Nat) : Ctr E := ⟨strings_Builder_String_s, fun (x : Bool × (List Int)) => strings_Builder_String F x.1 x.2⟩
theorem strings_Builder_String_ok (F : Nat) : (strings_Builder_String_c F).Ok Tryd.prog := Ctr.ok_of (X := ⟨Tryd.prog, tyT, []⟩) (F := F) ⟨E_ok, okN, mixed⟩ (pl := strings_Builder_String_p) Tryd.func36 (by kernel_rfl) (fun x => by kernel_rfl)
/- jobshell/arith.Show -/
def arith_Show (F : Nat)  (a0 : TExpr) : Option ((List UInt8) × Int) :=
 (arith_Valid F (TExpr.mk a0.fOp a0.fN a0.fName a0.fKids)).bind fun x1 =>
 cond (x1 != 0)
 (some ([], x1))
 ((arith_write F (TExpr.mk a0.fOp a0.fN a0.fName a0.fKids) 1 false ([] : List Int)).bind fun x2 =>
 (strings_Builder_Len F x2.1 x2.2).bind fun x3 =>
 cond (decide (4096 < x3))
 (some ([], 3))
 ((strings_Builder_String F x2.1 x2.2).bind fun x4 =>
 some (x4, 0)))
def arith_Show_s : Shp := ⟨16, [.one (.dat (.ext 0))], [], [], ⟨.tup [.dat .str, .dat (.int .i64)], [], []⟩, none⟩
def arith_Show_p : Plan := .seq [] none (.leaf) (.seq [] none (.leaf) (.seq [] none (.leaf) (.seq [.cell 1 1 5 (.int .u8)] none (.leaf) (.leaf))))
def arith_Show_c (F : Nat) : Ctr E := ⟨arith_Show_s, fun (x : TExpr) => arith_Show F x⟩
theorem arith_Show_ok (F : Nat) : (arith_Show_c F).Ok Tryd.prog := Ctr.ok_of (X := ⟨Tryd.prog, tyT, [arith_Valid_c F, arith_write_c F, strings_Builder_Len_c F, strings_Builder_String_c F]⟩) (F := F) ⟨E_ok, okC (arith_Valid_ok F) (okC (arith_write_ok F) (okC (strings_Builder_Len_ok F) (okC (strings_Builder_String_ok F) (okN)))), mixed⟩ (pl := arith_Show_p) Tryd.func16 (by kernel_rfl) (fun x => by kernel_rfl)
/- jobshell/arith.Names$1 -/
def arith_Names_1_m (F : Nat) (r_arith_Names_1 : TExpr → (List (List UInt8)) → (List ((List UInt8) × Bool)) → Option ((List (List UInt8)) × (List ((List UInt8) × Bool)))) (a0 : TExpr) (a1 : List (List UInt8)) (a2 : List ((List UInt8) × Bool)) : Option ((List (List UInt8)) × (List ((List UInt8) × Bool))) :=
 ((cond (a0.fOp == 2)
 (some true)
 (some (a0.fOp == 26)) : Option Bool).bind fun x2 =>
 (cond x2
 (some (!(mget keq a2 a0.fName false)))
 (some false) : Option Bool).bind fun x3 =>
 cond x3
 (rq ((decide (a1.length + ([a0.fName] : List (List UInt8)).length ≤ 9223372036854775807)) && (decide ((a1.length + ([a0.fName] : List (List UInt8)).length) * 16 ≤ 140737488355328))) (some (a1 ++ ([a0.fName] : List (List UInt8)), mset keq a2 a0.fName true)))
 (some (a1, a2)) : Option ((List (List UInt8)) × (List ((List UInt8) × Bool)))).bind fun x1 =>
 loopF (σ := Int × (List (List UInt8)) × (List ((List UInt8) × Bool))) (R := (List (List UInt8)) × (List ((List UInt8) × Bool))) (fun rc5 x4 =>
 cond (decide (x4.1 < (a0.fKids.length : Int)))
 (rq ((decide (0 ≤ x4.1)) && (decide (x4.1 < (a0.fKids.length : Int)))) ((r_arith_Names_1 (TExpr.mk ((a0.fKids.getD (Int.toNat x4.1) dTExpr).fOp) ((a0.fKids.getD (Int.toNat x4.1) dTExpr).fN) ((a0.fKids.getD (Int.toNat x4.1) dTExpr).fName) ((a0.fKids.getD (Int.toNat x4.1) dTExpr).fKids)) x4.2.1 x4.2.2).bind fun x6 =>
 rc5 (w64 (x4.1 + 1), x6.1, x6.2)))
 (some (x4.2.1, x4.2.2))) F (0, x1.1, x1.2)
def arith_Names_1_s : Shp := ⟨40, [.one (.dat (.ext 0)), .one (.ptr 0 0), .one (.ptr 1 0), .one (.ptr 2 0)], [.cells 68 [.mref 3], .cells 41 [.gsl 0 .str], .cells 69 [.func 40 [(0, 0), (1, 0), (2, 0)]], .map .str .bool], [(9, 1)], ⟨.tup [], [none, some (.cells 41 [.gsl 0 .str]), none, some (.map .str .bool)], [some (9, 1)]⟩, none⟩
def arith_Names_1_p : Plan := .seq [] none (.leaf) (.seq [] (some (⟨[], [none, some (.cells 41 [.gsl 0 .str]), none, some (.map .str .bool), none], [some (9, 1)]⟩, false)) (.seq [] none (.region [(8, ⟨[(14, .one (.dat .bool))], [none, none, none, none, none], [none]⟩, false), (7, ⟨[(21, .one (.dat .bool))], [none, none, none, none, none], [none]⟩, false)]) (.leaf)) (.seq [] none (.leaf) (.loop [] ⟨[(33, .one (.dat (.int .i64)))], [none, some (.cells 41 [.gsl 0 .str]), none, some (.map .str .bool), none], [some (9, 1)]⟩ (.leaf))))
def arith_Names_1_n (F : Nat) : Nat → TExpr → (List (List UInt8)) → (List ((List UInt8) × Bool)) → Option ((List (List UInt8)) × (List ((List UInt8) × Bool)))
  | 0 => fun _ _ _ => none
  | n + 1 => arith_Names_1_m F (arith_Names_1_n F n)
def arith_Names_1 (F : Nat) (a0 : TExpr) (a1 : List (List UInt8)) (a2 : List ((List UInt8) × Bool)) : Option ((List (List UInt8)) × (List ((List UInt8) × Bool))) := arith_Names_1_n F F a0 a1 a2
def arith_Names_1_cn (F n : Nat) : Ctr E := ⟨arith_Names_1_s, fun (x : TExpr × (List (List UInt8)) × (List ((List UInt8) × Bool))) => arith_Names_1_n F n x.1 x.2.1 x.2.2⟩
def arith_Names_1_c (F : Nat) : Ctr E := ⟨arith_Names_1_s, fun (x : TExpr × (List (List UInt8)) × (List ((List UInt8) × Bool))) => arith_Names_1 F x.1 x.2.1 x.2.2⟩
theorem arith_Names_1_st (F n : Nat) (h : (arith_Names_1_cn F n).Ok Tryd.prog) : (arith_Names_1_cn F (n + 1)).Ok Tryd.prog := Ctr.ok_of (X := ⟨Tryd.prog, tyT, [arith_Names_1_cn F n]⟩) (F := F) ⟨E_ok, okC h (okN), mixed⟩ (pl := arith_Names_1_p) Tryd.func40 (by kernel_rfl) (fun x => by kernel_rfl)
theorem arith_Names_1_okn (F : Nat) : ∀ n, (arith_Names_1_cn F n).Ok Tryd.prog
  | 0 => (fun x y h => nomatch (show none = some y from h))
  | n + 1 => by
    have h := arith_Names_1_okn F n
    exact arith_Names_1_st F n h
theorem arith_Names_1_ok (F : Nat) : (arith_Names_1_c F).Ok Tryd.prog := (arith_Names_1_okn F F)
/- jobshell/arith.Names -/
def arith_Names (F : Nat)  (a0 : TExpr) : Option (List (List UInt8)) :=
 (arith_Names_1 F (TExpr.mk a0.fOp a0.fN a0.fName a0.fKids) ([] : List (List UInt8)) []).bind fun x1 =>
 some x1.1
def arith_Names_s : Shp := ⟨20, [.one (.dat (.ext 0))], [], [], ⟨.one (.dat (.lst .str)), [], []⟩, none⟩
def arith_Names_p : Plan := .seq [] none (.leaf) (.seq [] none (.leaf) (.seq [] none (.leaf) (.seq [] none (.leaf) (.seq [] none (.leaf) (.seq [.cell 1 0 9 .str] none (.leaf) (.leaf))))))
def arith_Names_c (F : Nat) : Ctr E := ⟨arith_Names_s, fun (x : TExpr) => arith_Names F x⟩
theorem arith_Names_ok (F : Nat) : (arith_Names_c F).Ok Tryd.prog := Ctr.ok_of (X := ⟨Tryd.prog, tyT, [arith_Names_1_c F]⟩) (F := F) ⟨E_ok, okC (arith_Names_1_ok F) (okN), mixed⟩ (pl := arith_Names_p) Tryd.func20 (by kernel_rfl) (fun x => by kernel_rfl)
/- jobshell/arith.Same -/
def arith_Same_m (F : Nat) (r_arith_Same : TExpr → TExpr → Option Bool) (r_slices_EqualFunc : (List TExpr) → (List TExpr) → Option Bool) (a0 : TExpr) (a1 : TExpr) : Option Bool :=
 (cond (a0.fOp == a1.fOp)
 (some (a0.fN == a1.fN))
 (some false) : Option Bool).bind fun x1 =>
 (cond x1
 (some (a0.fName == a1.fName))
 (some false) : Option Bool).bind fun x2 =>
 (cond x2
 ((r_slices_EqualFunc a0.fKids a1.fKids).bind fun x4 =>
 some x4)
 (some false) : Option Bool).bind fun x3 =>
 some x3
def arith_Same_s : Shp := ⟨22, [.one (.dat (.ext 0)), .one (.dat (.ext 0))], [], [], ⟨.one (.dat .bool), [], []⟩, none⟩
def arith_Same_p : Plan := .seq [] none (.leaf) (.seq [] none (.region [(12, ⟨[(16, .one (.dat .bool))], [none, none], []⟩, false), (7, ⟨[(23, .one (.dat .bool))], [none, none], []⟩, false), (7, ⟨[(30, .one (.dat .bool))], [none, none], []⟩, false)]) (.leaf))
/- slices.EqualFunc[[]jobshell/api.Expr,[]jobshell/api.Expr,jobshell/api.Expr,jobshell/api.Expr] -/
def slices_EqualFunc_m (F : Nat) (r_arith_Same : TExpr → TExpr → Option Bool) (r_slices_EqualFunc : (List TExpr) → (List TExpr) → Option Bool) (a0 : List TExpr) (a1 : List TExpr) : Option Bool :=
 cond ((a0.length : Int) != (a1.length : Int))
 (some false)
 (loopF (σ := Int) (R := Bool) (fun rc2 x1 =>
 cond (decide (x1 < (a0.length : Int)))
 (rq ((decide (0 ≤ x1)) && (decide (x1 < (a0.length : Int)))) (rq ((decide (0 ≤ x1)) && (decide (x1 < (a1.length : Int)))) ((r_arith_Same (TExpr.mk ((a0.getD (Int.toNat x1) dTExpr).fOp) ((a0.getD (Int.toNat x1) dTExpr).fN) ((a0.getD (Int.toNat x1) dTExpr).fName) ((a0.getD (Int.toNat x1) dTExpr).fKids)) (TExpr.mk ((a1.getD (Int.toNat x1) dTExpr).fOp) ((a1.getD (Int.toNat x1) dTExpr).fN) ((a1.getD (Int.toNat x1) dTExpr).fName) ((a1.getD (Int.toNat x1) dTExpr).fKids))).bind fun x3 =>
 cond (!x3)
 (some false)
 (rc2 (w64 (x1 + 1))))))
 (some true)) F 0)
def slices_EqualFunc_s : Shp := ⟨42, [.one (.dat (.lst (.ext 0))), .one (.dat (.lst (.ext 0))), .one (.func 22 [])], [], [], ⟨.one (.dat .bool), [], []⟩, none⟩
def slices_EqualFunc_p : Plan := .seq [] none (.leaf) (.seq [] none (.leaf) (.seq [] none (.seq [] none (.leaf) (.loop [] ⟨[(17, .one (.dat (.int .i64)))], [], []⟩ (.leaf))) (.leaf)))
def arith_Same_G (F : Nat) : Nat → (TExpr → TExpr → Option Bool) × ((List TExpr) → (List TExpr) → Option Bool)
  | 0 => (fun _ _ => none, fun _ _ => none)
  | n + 1 => (arith_Same_m F (arith_Same_G F n).1 (arith_Same_G F n).2, slices_EqualFunc_m F (arith_Same_G F n).1 (arith_Same_G F n).2)
def arith_Same_n (F n : Nat) : TExpr → TExpr → Option Bool := (arith_Same_G F n).1
def slices_EqualFunc_n (F n : Nat) : (List TExpr) → (List TExpr) → Option Bool := (arith_Same_G F n).2
def arith_Same (F : Nat) (a0 : TExpr) (a1 : TExpr) : Option Bool := arith_Same_n F F a0 a1
def slices_EqualFunc (F : Nat) (a0 : List TExpr) (a1 : List TExpr) : Option Bool := slices_EqualFunc_n F F a0 a1
def arith_Same_cn (F n : Nat) : Ctr E := ⟨arith_Same_s, fun (x : TExpr × TExpr) => arith_Same_n F n x.1 x.2⟩
def arith_Same_c (F : Nat) : Ctr E := ⟨arith_Same_s, fun (x : TExpr × TExpr) => arith_Same F x.1 x.2⟩
def slices_EqualFunc_cn (F n : Nat) : Ctr E := ⟨slices_EqualFunc_s, fun (x : (List TExpr) × (List TExpr)) => slices_EqualFunc_n F n x.1 x.2⟩
def slices_EqualFunc_c (F : Nat) : Ctr E := ⟨slices_EqualFunc_s, fun (x : (List TExpr) × (List TExpr)) => slices_EqualFunc F x.1 x.2⟩
theorem arith_Same_st (F n : Nat) (h : (arith_Same_cn F n).Ok Tryd.prog ∧ (slices_EqualFunc_cn F n).Ok Tryd.prog) : (arith_Same_cn F (n + 1)).Ok Tryd.prog := Ctr.ok_of (X := ⟨Tryd.prog, tyT, [slices_EqualFunc_cn F n]⟩) (F := F) ⟨E_ok, okC h.2 (okN), mixed⟩ (pl := arith_Same_p) Tryd.func22 (by kernel_rfl) (fun x => by kernel_rfl)
theorem slices_EqualFunc_st (F n : Nat) (h : (arith_Same_cn F n).Ok Tryd.prog ∧ (slices_EqualFunc_cn F n).Ok Tryd.prog) : (slices_EqualFunc_cn F (n + 1)).Ok Tryd.prog := Ctr.ok_of (X := ⟨Tryd.prog, tyT, [arith_Same_cn F n]⟩) (F := F) ⟨E_ok, okC h.1 (okN), mixed⟩ (pl := slices_EqualFunc_p) Tryd.func42 (by kernel_rfl) (fun x => by kernel_rfl)
theorem arith_Same_okn (F : Nat) : ∀ n, (arith_Same_cn F n).Ok Tryd.prog ∧ (slices_EqualFunc_cn F n).Ok Tryd.prog
  | 0 => ⟨(fun x y h => nomatch (show none = some y from h)), (fun x y h => nomatch (show none = some y from h))⟩
  | n + 1 => by
    have h := arith_Same_okn F n
    exact ⟨arith_Same_st F n h,
      slices_EqualFunc_st F n h⟩
theorem arith_Same_ok (F : Nat) : (arith_Same_c F).Ok Tryd.prog := (arith_Same_okn F F).1
theorem slices_EqualFunc_ok (F : Nat) : (slices_EqualFunc_c F).Ok Tryd.prog := (arith_Same_okn F F).2
/- jobshell/jobshelllaw05.awake -/
def law05_awake (F : Nat)   : Option Bool :=
 (arith_Parse F ([40, 49, 43, 50, 41, 42, 51] : List UInt8)).bind fun x1 =>
 (arith_Show F (TExpr.mk x1.1.fOp x1.1.fN x1.1.fName x1.1.fKids)).bind fun x2 =>
 (arith_Parse F ([97, 43, 98, 61, 50] : List UInt8)).bind fun x3 =>
 (arith_Parse F ([97, 61, 98, 43, 61, 50] : List UInt8)).bind fun x4 =>
 (arith_Names F (TExpr.mk x4.1.fOp x4.1.fN x4.1.fName x4.1.fKids)).bind fun x5 =>
 (cond (x1.2.2 != 0)
 (some true)
 (some (x2.2 != 0)) : Option Bool).bind fun x6 =>
 (cond x6
 (some true)
 (some (!(x2.1 == ([40, 49, 32, 43, 32, 50, 41, 32, 42, 32, 51] : List UInt8)))) : Option Bool).bind fun x7 =>
 (cond x7
 (some true)
 (some (x3.2.1 != 3)) : Option Bool).bind fun x8 =>
 (cond x8
 (some true)
 (some (x3.2.2 != 6)) : Option Bool).bind fun x9 =>
 (cond x9
 (some true)
 (some (x4.2.2 != 0)) : Option Bool).bind fun x10 =>
 (cond x10
 (some true)
 (some ((x5.length : Int) != 2)) : Option Bool).bind fun x11 =>
 (cond x11
 (some true)
 (rq (decide (0 < (x5.length : Int))) (some (!((x5.getD 0 []) == ([97] : List UInt8))))) : Option Bool).bind fun x12 =>
 (cond x12
 (some true)
 (rq (decide (1 < (x5.length : Int))) (some (!((x5.getD 1 []) == ([98] : List UInt8))))) : Option Bool).bind fun x13 =>
 cond x13
 (some false)
 ((cond (x1.1.fOp == 7)
 (some (x4.1.fOp == 26))
 (some false) : Option Bool).bind fun x14 =>
 (cond x14
 ((arith_Same F (TExpr.mk x1.1.fOp x1.1.fN x1.1.fName x1.1.fKids) (TExpr.mk x1.1.fOp x1.1.fN x1.1.fName x1.1.fKids)).bind fun x16 =>
 some x16)
 (some false) : Option Bool).bind fun x15 =>
 (cond x15
 ((arith_Same F (TExpr.mk x1.1.fOp x1.1.fN x1.1.fName x1.1.fKids) (TExpr.mk x4.1.fOp x4.1.fN x4.1.fName x4.1.fKids)).bind fun x18 =>
 some (!x18))
 (some false) : Option Bool).bind fun x17 =>
 (cond x17
 ((arith_Valid F (TExpr.mk 0 0 [] [])).bind fun x20 =>
 some (x20 == 1))
 (some false) : Option Bool).bind fun x19 =>
 (cond x19
 ((arith_Valid F (TExpr.mk x1.1.fOp x1.1.fN x1.1.fName x1.1.fKids)).bind fun x22 =>
 some (x22 == 0))
 (some false) : Option Bool).bind fun x21 =>
 some x21)
def law05_awake_s : Shp := ⟨11, [], [], [], ⟨.one (.dat .bool), [], []⟩, none⟩
def law05_awake_p : Plan := .seq [] none (.leaf) (.seq [] none (.leaf) (.seq [] none (.leaf) (.seq [] none (.leaf) (.seq [] none (.leaf) (.seq [] none (.leaf) (.seq [] none (.seq [] none (.region [(6, ⟨[(40, .one (.dat .bool))], [none, none, none], []⟩, false), (4, ⟨[(44, .one (.dat .bool))], [none, none, none], []⟩, false), (4, ⟨[(48, .one (.dat .bool))], [none, none, none], []⟩, false), (4, ⟨[(52, .one (.dat .bool))], [none, none, none], []⟩, false), (4, ⟨[(56, .one (.dat .bool))], [none, none, none], []⟩, false), (5, ⟨[(61, .one (.dat .bool))], [none, none, none], []⟩, false), (6, ⟨[(67, .one (.dat .bool))], [none, none, none], []⟩, false), (6, ⟨[(73, .one (.dat .bool))], [none, none, none], []⟩, false)]) (.leaf)) (.seq [] none (.region [(8, ⟨[(81, .one (.dat .bool))], [none, none, none], []⟩, false), (5, ⟨[(86, .one (.dat .bool))], [none, none, none], []⟩, false), (6, ⟨[(92, .one (.dat .bool))], [none, none, none], []⟩, false), (5, ⟨[(97, .one (.dat .bool))], [none, none, none], []⟩, false), (5, ⟨[(102, .one (.dat .bool))], [none, none, none], []⟩, false)]) (.leaf))))))))
def law05_awake_c (F : Nat) : Ctr E := ⟨law05_awake_s, fun (x : Unit) => law05_awake F ⟩
theorem law05_awake_ok (F : Nat) : (law05_awake_c F).Ok Tryd.prog := Ctr.ok_of (X := ⟨Tryd.prog, tyT, [arith_Parse_c F, arith_Show_c F, arith_Names_c F, arith_Same_c F, arith_Valid_c F]⟩) (F := F) ⟨E_ok, okC (arith_Parse_ok F) (okC (arith_Show_ok F) (okC (arith_Names_ok F) (okC (arith_Same_ok F) (okC (arith_Valid_ok F) (okN))))), mixed⟩ (pl := law05_awake_p) Tryd.func11 (by kernel_rfl) (fun x => by kernel_rfl)
/- (*jobshell/jobshellref05.reader).blanks -/
def ref05_reader_blanks (F : Nat)  (a0 : List UInt8) (a1 : Int) (a2 : Int) (a3 : Int) : Option ((List UInt8) × Int × Int × Int) :=
 loopF (σ := (List UInt8) × Int × Int × Int) (R := (List UInt8) × Int × Int × Int) (fun rc2 x1 =>
 (cond (decide (x1.2.1 < (x1.1.length : Int)))
 (rq ((decide (0 ≤ x1.2.1)) && (decide (x1.2.1 < (x1.1.length : Int)))) (cond (((x1.1.getD (Int.toNat x1.2.1) 0).toNat : Int) == 9)
 (some true)
 (rq ((decide (0 ≤ x1.2.1)) && (decide (x1.2.1 < (x1.1.length : Int)))) (cond (((x1.1.getD (Int.toNat x1.2.1) 0).toNat : Int) == 10)
 (some true)
 (rq ((decide (0 ≤ x1.2.1)) && (decide (x1.2.1 < (x1.1.length : Int)))) (some (((x1.1.getD (Int.toNat x1.2.1) 0).toNat : Int) == 32)))))))
 (some false) : Option Bool).bind fun x3 =>
 cond x3
 (rc2 (x1.1, w64 (x1.2.1 + 1), x1.2.2.1, x1.2.2.2))
 (some (x1.1, x1.2.1, x1.2.2.1, x1.2.2.2))) F (a0, a1, a2, a3)
def ref05_reader_blanks_s : Shp := ⟨29, [.one (.ptr 0 0)], [.cells 55 [.dat .str, .dat (.int .i64), .dat (.int .i64), .dat (.int .i64)]], [], ⟨.tup [], [some (.cells 55 [.dat .str, .dat (.int .i64), .dat (.int .i64), .dat (.int .i64)])], []⟩, none⟩
def ref05_reader_blanks_p : Plan := .loop [] ⟨[], [some (.cells 55 [.dat .str, .dat (.int .i64), .dat (.int .i64), .dat (.int .i64)])], []⟩ (.seq [] none (.seq [] none (.draw [⟨true, 46, some ⟨[(47, .one (.dat .bool))], [none], []⟩⟩]) (.leaf)) (.leaf))
def ref05_reader_blanks_c (F : Nat) : Ctr E := ⟨ref05_reader_blanks_s, fun (x : (List UInt8) × Int × Int × Int) => ref05_reader_blanks F x.1 x.2.1 x.2.2.1 x.2.2.2⟩
theorem ref05_reader_blanks_ok (F : Nat) : (ref05_reader_blanks_c F).Ok Tryd.prog := Ctr.ok_of (X := ⟨Tryd.prog, tyT, []⟩) (F := F) ⟨E_ok, okN, mixed⟩ (pl := ref05_reader_blanks_p) Tryd.func29 (by kernel_rfl) (fun x => by kernel_rfl)
/- jobshell/jobshellref05.Letter -/
def ref05_Letter (F : Nat)  (a0 : Int) : Option Bool :=
 (cond (decide (97 ≤ a0))
 (some (decide (a0 ≤ 122)))
 (some false) : Option Bool).bind fun x1 =>
 (cond x1
 (some true)
 (cond (decide (65 ≤ a0))
 (some (decide (a0 ≤ 90)))
 (some false)) : Option Bool).bind fun x2 =>
 (cond x2
 (some true)
 (some (a0 == 95)) : Option Bool).bind fun x3 =>
 some x3
def ref05_Letter_s : Shp := ⟨53, [.one (.dat (.int .u8))], [], [], ⟨.one (.dat .bool), [], []⟩, none⟩
def ref05_Letter_p : Plan := .seq [] none (.leaf) (.seq [] none (.region [(6, ⟨[(8, .one (.dat .bool))], [], []⟩, false), (8, ⟨[(16, .one (.dat .bool))], [], []⟩, false), (4, ⟨[(20, .one (.dat .bool))], [], []⟩, false)]) (.leaf))
def ref05_Letter_c (F : Nat) : Ctr E := ⟨ref05_Letter_s, fun (x : Int) => ref05_Letter F x⟩
theorem ref05_Letter_ok (F : Nat) : (ref05_Letter_c F).Ok Tryd.prog := Ctr.ok_of (X := ⟨Tryd.prog, tyT, []⟩) (F := F) ⟨E_ok, okN, mixed⟩ (pl := ref05_Letter_p) Tryd.func53 (by kernel_rfl) (fun x => by kernel_rfl)
/- jobshell/jobshellref05.digit -/
def ref05_digit (F : Nat)  (a0 : Int) : Option Bool :=
 (cond (decide (48 ≤ a0))
 (some (decide (a0 ≤ 57)))
 (some false) : Option Bool).bind fun x1 =>
 some x1
def ref05_digit_s : Shp := ⟨78, [.one (.dat (.int .u8))], [], [], ⟨.one (.dat .bool), [], []⟩, none⟩
def ref05_digit_p : Plan := .seq [] none (.leaf) (.seq [] none (.region [(6, ⟨[(8, .one (.dat .bool))], [], []⟩, false)]) (.leaf))
def ref05_digit_c (F : Nat) : Ctr E := ⟨ref05_digit_s, fun (x : Int) => ref05_digit F x⟩
theorem ref05_digit_ok (F : Nat) : (ref05_digit_c F).Ok Tryd.prog := Ctr.ok_of (X := ⟨Tryd.prog, tyT, []⟩) (F := F) ⟨E_ok, okN, mixed⟩ (pl := ref05_digit_p) Tryd.func78 (by kernel_rfl) (fun x => by kernel_rfl)
/- (*jobshell/jobshellref05.reader).word -/
def ref05_reader_word (F : Nat)  (a0 : List UInt8) (a1 : Int) (a2 : Int) (a3 : Int) : Option (List UInt8) :=
 loopF (σ := Int) (R := List UInt8) (fun rc2 x1 =>
 (cond (decide (x1 < (a0.length : Int)))
 (rq ((decide (0 ≤ x1)) && (decide (x1 < (a0.length : Int)))) ((ref05_Letter F ((a0.getD (Int.toNat x1) 0).toNat : Int)).bind fun x4 =>
 cond x4
 (some true)
 (rq ((decide (0 ≤ x1)) && (decide (x1 < (a0.length : Int)))) ((ref05_digit F ((a0.getD (Int.toNat x1) 0).toNat : Int)).bind fun x5 =>
 some x5))))
 (some false) : Option Bool).bind fun x3 =>
 cond x3
 (rc2 (w64 (x1 + 1)))
 (rq ((decide (0 ≤ a1)) && ((decide (a1 ≤ x1)) && (decide (x1 ≤ (a0.length : Int))))) (some (sl a0 a1 x1)))) F a1
def ref05_reader_word_s : Shp := ⟨52, [.one (.ptr 0 0)], [.cells 55 [.dat .str, .dat (.int .i64), .dat (.int .i64), .dat (.int .i64)]], [], ⟨.one (.dat .str), [none], []⟩, none⟩
def ref05_reader_word_p : Plan := .seq [] none (.leaf) (.seq [] none (.leaf) (.seq [] none (.loop [] ⟨[(3, .one (.dat (.int .i64)))], [none], []⟩ (.seq [] none (.seq [] none (.region [(25, ⟨[(32, .one (.dat .bool))], [none], []⟩, false)]) (.leaf)) (.leaf))) (.seq [] none (.draw [⟨true, 11, none⟩]) (.leaf))))
def ref05_reader_word_c (F : Nat) : Ctr E := ⟨ref05_reader_word_s, fun (x : (List UInt8) × Int × Int × Int) => ref05_reader_word F x.1 x.2.1 x.2.2.1 x.2.2.2⟩
theorem ref05_reader_word_ok (F : Nat) : (ref05_reader_word_c F).Ok Tryd.prog := Ctr.ok_of (X := ⟨Tryd.prog, tyT, [ref05_Letter_c F, ref05_digit_c F]⟩) (F := F) ⟨E_ok, okC (ref05_Letter_ok F) (okC (ref05_digit_ok F) (okN)), mixed⟩ (pl := ref05_reader_word_p) Tryd.func52 (by kernel_rfl) (fun x => by kernel_rfl)
/- jobshell/jobshellref05.operators -/
def ref05_operators (F : Nat)   : Option (List (List UInt8)) :=
 some ([([60, 60, 61] : List UInt8), ([62, 62, 61] : List UInt8), ([60, 60] : List UInt8), ([62, 62] : List UInt8), ([60, 61] : List UInt8), ([62, 61] : List UInt8), ([61, 61] : List UInt8), ([33, 61] : List UInt8), ([38, 38] : List UInt8), ([124, 124] : List UInt8), ([43, 61] : List UInt8), ([45, 61] : List UInt8), ([42, 61] : List UInt8), ([47, 61] : List UInt8), ([37, 61] : List UInt8), ([38, 61] : List UInt8), ([94, 61] : List UInt8), ([124, 61] : List UInt8), ([43] : List UInt8), ([45] : List UInt8), ([42] : List UInt8), ([47] : List UInt8), ([37] : List UInt8), ([60] : List UInt8), ([62] : List UInt8), ([38] : List UInt8), ([94] : List UInt8), ([124] : List UInt8), ([33] : List UInt8), ([126] : List UInt8), ([63] : List UInt8), ([58] : List UInt8), ([40] : List UInt8), ([41] : List UInt8), ([61] : List UInt8)] : List (List UInt8))
def ref05_operators_s : Shp := ⟨79, [], [], [], ⟨.one (.dat (.lst .str)), [], []⟩, none⟩
def ref05_operators_p : Plan := .leaf
def ref05_operators_c (F : Nat) : Ctr E := ⟨ref05_operators_s, fun (x : Unit) => ref05_operators F ⟩
theorem ref05_operators_ok (F : Nat) : (ref05_operators_c F).Ok Tryd.prog := Ctr.ok_of (X := ⟨Tryd.prog, tyT, []⟩) (F := F) ⟨E_ok, okN, mixed⟩ (pl := ref05_operators_p) Tryd.func79 (by kernel_rfl) (fun x => by kernel_rfl)
/- (*jobshell/jobshellref05.reader).operator -/
def ref05_reader_operator (F : Nat)  (a0 : List UInt8) (a1 : Int) (a2 : Int) (a3 : Int) : Option ((List UInt8) × (List UInt8) × Int × Int × Int) :=
 (ref05_reader_blanks F a0 a1 a2 a3).bind fun x1 =>
 (ref05_operators F).bind fun x2 =>
 loopF (σ := Int) (R := (List UInt8) × (List UInt8) × Int × Int × Int) (fun rc4 x3 =>
 cond (decide (x3 < (x2.length : Int)))
 (rq ((decide (0 ≤ x3)) && (decide (x3 < (x2.length : Int)))) ((cond (decide (((x2.getD (Int.toNat x3) []).length : Int) ≤ w64 ((x1.1.length : Int) - x1.2.1)))
 (rq ((decide (0 ≤ x1.2.1)) && ((decide (x1.2.1 ≤ w64 (x1.2.1 + ((x2.getD (Int.toNat x3) []).length : Int)))) && (decide (w64 (x1.2.1 + ((x2.getD (Int.toNat x3) []).length : Int)) ≤ (x1.1.length : Int))))) (rq ((decide (0 ≤ x3)) && (decide (x3 < (x2.length : Int)))) (some ((sl x1.1 x1.2.1 (w64 (x1.2.1 + ((x2.getD (Int.toNat x3) []).length : Int)))) == (x2.getD (Int.toNat x3) [])))))
 (some false) : Option Bool).bind fun x5 =>
 cond x5
 (rq ((decide (0 ≤ x3)) && (decide (x3 < (x2.length : Int)))) (some (x2.getD (Int.toNat x3) [], x1.1, x1.2.1, x1.2.2.1, x1.2.2.2)))
 (rc4 (w64 (x3 + 1)))))
 (some ([], x1.1, x1.2.1, x1.2.2.1, x1.2.2.2))) F 0
def ref05_reader_operator_s : Shp := ⟨54, [.one (.ptr 0 0)], [.cells 55 [.dat .str, .dat (.int .i64), .dat (.int .i64), .dat (.int .i64)]], [], ⟨.one (.dat .str), [some (.cells 55 [.dat .str, .dat (.int .i64), .dat (.int .i64), .dat (.int .i64)])], []⟩, none⟩
def ref05_reader_operator_p : Plan := .seq [] none (.leaf) (.seq [] none (.leaf) (.seq [] none (.leaf) (.seq [] none (.seq [] none (.leaf) (.loop [] ⟨[(4, .one (.dat (.int .i64)))], [none], []⟩ (.seq [] none (.leaf) (.seq [] none (.seq [] none (.leaf) (.seq [] none (.draw [⟨true, 34, some ⟨[(53, .one (.dat .bool))], [none], []⟩⟩]) (.leaf))) (.leaf))))) (.leaf))))
def ref05_reader_operator_c (F : Nat) : Ctr E := ⟨ref05_reader_operator_s, fun (x : (List UInt8) × Int × Int × Int) => ref05_reader_operator F x.1 x.2.1 x.2.2.1 x.2.2.2⟩
theorem ref05_reader_operator_ok (F : Nat) : (ref05_reader_operator_c F).Ok Tryd.prog := Ctr.ok_of (X := ⟨Tryd.prog, tyT, [ref05_reader_blanks_c F, ref05_operators_c F]⟩) (F := F) ⟨E_ok, okC (ref05_reader_blanks_ok F) (okC (ref05_operators_ok F) (okN)), mixed⟩ (pl := ref05_reader_operator_p) Tryd.func54 (by kernel_rfl) (fun x => by kernel_rfl)
/- jobshell/jobshellref05.assigning -/
def ref05_assigning (F : Nat)  (a0 : List UInt8) : Option Int :=
 loopF (σ := Int) (R := Int) (fun rc2 x1 =>
 cond (decide (x1 < (([([61] : List UInt8), ([43, 61] : List UInt8), ([45, 61] : List UInt8), ([42, 61] : List UInt8), ([47, 61] : List UInt8), ([37, 61] : List UInt8), ([60, 60, 61] : List UInt8), ([62, 62, 61] : List UInt8), ([38, 61] : List UInt8), ([94, 61] : List UInt8), ([124, 61] : List UInt8)] : List (List UInt8)).length : Int)))
 (rq ((decide (0 ≤ x1)) && (decide (x1 < (([([61] : List UInt8), ([43, 61] : List UInt8), ([45, 61] : List UInt8), ([42, 61] : List UInt8), ([47, 61] : List UInt8), ([37, 61] : List UInt8), ([60, 60, 61] : List UInt8), ([62, 62, 61] : List UInt8), ([38, 61] : List UInt8), ([94, 61] : List UInt8), ([124, 61] : List UInt8)] : List (List UInt8)).length : Int)))) (cond ((([([61] : List UInt8), ([43, 61] : List UInt8), ([45, 61] : List UInt8), ([42, 61] : List UInt8), ([47, 61] : List UInt8), ([37, 61] : List UInt8), ([60, 60, 61] : List UInt8), ([62, 62, 61] : List UInt8), ([38, 61] : List UInt8), ([94, 61] : List UInt8), ([124, 61] : List UInt8)] : List (List UInt8)).getD (Int.toNat x1) []) == a0)
 (rq ((decide (0 ≤ x1)) && (decide (x1 < (([0, 10, 11, 7, 8, 9, 12, 13, 20, 21, 22] : List Int).length : Int)))) (some (([0, 10, 11, 7, 8, 9, 12, 13, 20, 21, 22] : List Int).getD (Int.toNat x1) 0)))
 (rc2 (w64 (x1 + 1)))))
 (some (-1))) F 0
def ref05_assigning_s : Shp := ⟨55, [.one (.dat .str)], [], [], ⟨.one (.dat (.int .i64)), [], []⟩, none⟩
def ref05_assigning_p : Plan := .seq [] none (.leaf) (.seq [] none (.leaf) (.seq [] none (.leaf) (.seq [] none (.seq [] none (.leaf) (.loop [] ⟨[(5, .one (.dat (.int .i64)))], [], [none, none]⟩ (.leaf))) (.leaf))))
def ref05_assigning_c (F : Nat) : Ctr E := ⟨ref05_assigning_s, fun (x : List UInt8) => ref05_assigning F x⟩
theorem ref05_assigning_ok (F : Nat) : (ref05_assigning_c F).Ok Tryd.prog := Ctr.ok_of (X := ⟨Tryd.prog, tyT, []⟩) (F := F) ⟨E_ok, okN, mixed⟩ (pl := ref05_assigning_p) Tryd.func55 (by kernel_rfl) (fun x => by kernel_rfl)
/- jobshell/jobshellref01.Digit -/
def ref01_Digit (F : Nat)  (a0 : Int) : Option Bool :=
 (cond (decide (48 ≤ a0))
 (some (decide (a0 ≤ 57)))
 (some false) : Option Bool).bind fun x1 =>
 some x1
def ref01_Digit_s : Shp := ⟨80, [.one (.dat (.int .u8))], [], [], ⟨.one (.dat .bool), [], []⟩, none⟩
def ref01_Digit_p : Plan := .seq [] none (.leaf) (.seq [] none (.region [(6, ⟨[(8, .one (.dat .bool))], [], []⟩, false)]) (.leaf))
def ref01_Digit_c (F : Nat) : Ctr E := ⟨ref01_Digit_s, fun (x : Int) => ref01_Digit F x⟩
theorem ref01_Digit_ok (F : Nat) : (ref01_Digit_c F).Ok Tryd.prog := Ctr.ok_of (X := ⟨Tryd.prog, tyT, []⟩) (F := F) ⟨E_ok, okN, mixed⟩ (pl := ref01_Digit_p) Tryd.func80 (by kernel_rfl) (fun x => by kernel_rfl)
/- jobshell/jobshellref01.Letter -/
def ref01_Letter (F : Nat)  (a0 : Int) : Option Bool :=
 (cond (decide (97 ≤ a0))
 (some (decide (a0 ≤ 122)))
 (some false) : Option Bool).bind fun x1 =>
 (cond x1
 (some true)
 (cond (decide (65 ≤ a0))
 (some (decide (a0 ≤ 90)))
 (some false)) : Option Bool).bind fun x2 =>
 some x2
def ref01_Letter_s : Shp := ⟨94, [.one (.dat (.int .u8))], [], [], ⟨.one (.dat .bool), [], []⟩, none⟩
def ref01_Letter_p : Plan := .seq [] none (.leaf) (.seq [] none (.region [(6, ⟨[(8, .one (.dat .bool))], [], []⟩, false), (8, ⟨[(16, .one (.dat .bool))], [], []⟩, false)]) (.leaf))
def ref01_Letter_c (F : Nat) : Ctr E := ⟨ref01_Letter_s, fun (x : Int) => ref01_Letter F x⟩
theorem ref01_Letter_ok (F : Nat) : (ref01_Letter_c F).Ok Tryd.prog := Ctr.ok_of (X := ⟨Tryd.prog, tyT, []⟩) (F := F) ⟨E_ok, okN, mixed⟩ (pl := ref01_Letter_p) Tryd.func94 (by kernel_rfl) (fun x => by kernel_rfl)
/- jobshell/jobshellref01.Word -/
def ref01_Word (F : Nat)  (a0 : Int) : Option Bool :=
 ((ref01_Letter F a0).bind fun x2 =>
 cond x2
 (some true)
 ((ref01_Digit F a0).bind fun x3 =>
 some x3) : Option Bool).bind fun x1 =>
 (cond x1
 (some true)
 (some (a0 == 95)) : Option Bool).bind fun x4 =>
 some x4
def ref01_Word_s : Shp := ⟨81, [.one (.dat (.int .u8))], [], [], ⟨.one (.dat .bool), [], []⟩, none⟩
def ref01_Word_p : Plan := .seq [] none (.leaf) (.seq [] none (.region [(6, ⟨[(8, .one (.dat .bool))], [], []⟩, false), (4, ⟨[(12, .one (.dat .bool))], [], []⟩, false)]) (.leaf))
def ref01_Word_c (F : Nat) : Ctr E := ⟨ref01_Word_s, fun (x : Int) => ref01_Word F x⟩
theorem ref01_Word_ok (F : Nat) : (ref01_Word_c F).Ok Tryd.prog := Ctr.ok_of (X := ⟨Tryd.prog, tyT, [ref01_Letter_c F, ref01_Digit_c F]⟩) (F := F) ⟨E_ok, okC (ref01_Letter_ok F) (okC (ref01_Digit_ok F) (okN)), mixed⟩ (pl := ref01_Word_p) Tryd.func81 (by kernel_rfl) (fun x => by kernel_rfl)
/- jobshell/jobshellref01.Name -/
def ref01_Name (F : Nat)  (a0 : List UInt8) : Option Bool :=
 (cond (a0 == [])
 (some true)
 (some (decide (32 < (a0.length : Int)))) : Option Bool).bind fun x1 =>
 (cond x1
 (some true)
 (rq (decide (0 < (a0.length : Int))) ((ref01_Digit F ((a0.getD 0 0).toNat : Int)).bind fun x3 =>
 some x3)) : Option Bool).bind fun x2 =>
 cond x2
 (some false)
 (loopF (σ := Int) (R := Bool) (fun rc5 x4 =>
 cond (decide (x4 < (a0.length : Int)))
 (rq ((decide (0 ≤ x4)) && (decide (x4 < (a0.length : Int)))) ((ref01_Word F ((a0.getD (Int.toNat x4) 0).toNat : Int)).bind fun x6 =>
 cond (!x6)
 (some false)
 (rc5 (w64 (x4 + 1)))))
 (some true)) F 0)
def ref01_Name_s : Shp := ⟨56, [.one (.dat .str)], [], [], ⟨.one (.dat .bool), [], []⟩, none⟩
def ref01_Name_p : Plan := .seq [] none (.leaf) (.seq [] none (.seq [] none (.region [(7, ⟨[(10, .one (.dat .bool))], [], []⟩, false), (5, ⟨[(15, .one (.dat .bool))], [], []⟩, false)]) (.leaf)) (.seq [] none (.seq [] none (.leaf) (.loop [] ⟨[(3, .one (.dat (.int .i64)))], [], []⟩ (.leaf))) (.leaf)))
def ref01_Name_c (F : Nat) : Ctr E := ⟨ref01_Name_s, fun (x : List UInt8) => ref01_Name F x⟩
theorem ref01_Name_ok (F : Nat) : (ref01_Name_c F).Ok Tryd.prog := Ctr.ok_of (X := ⟨Tryd.prog, tyT, [ref01_Digit_c F, ref01_Word_c F]⟩) (F := F) ⟨E_ok, okC (ref01_Digit_ok F) (okC (ref01_Word_ok F) (okN)), mixed⟩ (pl := ref01_Name_p) Tryd.func56 (by kernel_rfl) (fun x => by kernel_rfl)
/- (*jobshell/jobshellref05.reader).fail -/
def ref05_reader_fail (F : Nat)  (a0 : Int) (a1 : Int) (a2 : List UInt8) (a3 : Int) (a4 : Int) (a5 : Int) : Option ((List UInt8) × Int × Int × Int) :=
 cond (a4 == 0)
 (some (a2, a3, a0, a1))
 (some (a2, a3, a4, a5))
def ref05_reader_fail_s : Shp := ⟨31, [.one (.ptr 0 0), .one (.dat (.int .i64)), .one (.dat (.int .i64))], [.cells 55 [.dat .str, .dat (.int .i64), .dat (.int .i64), .dat (.int .i64)]], [], ⟨.tup [], [some (.cells 55 [.dat .str, .dat (.int .i64), .dat (.int .i64), .dat (.int .i64)])], []⟩, none⟩
def ref05_reader_fail_p : Plan := .leaf
def ref05_reader_fail_c (F : Nat) : Ctr E := ⟨ref05_reader_fail_s, fun (x : Int × Int × (List UInt8) × Int × Int × Int) => ref05_reader_fail F x.1 x.2.1 x.2.2.1 x.2.2.2.1 x.2.2.2.2.1 x.2.2.2.2.2⟩
theorem ref05_reader_fail_ok (F : Nat) : (ref05_reader_fail_c F).Ok Tryd.prog := Ctr.ok_of (X := ⟨Tryd.prog, tyT, []⟩) (F := F) ⟨E_ok, okN, mixed⟩ (pl := ref05_reader_fail_p) Tryd.func31 (by kernel_rfl) (fun x => by kernel_rfl)
/- jobshell/jobshellref05.sign -/
def ref05_sign (F : Nat)  (a0 : Int) : Option (List UInt8) :=
 (cond (decide (a0 < 3))
 (some true)
 (some (decide (24 < a0))) : Option Bool).bind fun x1 =>
 cond x1
 (some [])
 (rq ((decide (0 ≤ w64 (a0 - 3))) && (decide (w64 (a0 - 3) < (([([45] : List UInt8), ([43] : List UInt8), ([33] : List UInt8), ([126] : List UInt8), ([42] : List UInt8), ([47] : List UInt8), ([37] : List UInt8), ([43] : List UInt8), ([45] : List UInt8), ([60, 60] : List UInt8), ([62, 62] : List UInt8), ([60] : List UInt8), ([62] : List UInt8), ([60, 61] : List UInt8), ([62, 61] : List UInt8), ([61, 61] : List UInt8), ([33, 61] : List UInt8), ([38] : List UInt8), ([94] : List UInt8), ([124] : List UInt8), ([38, 38] : List UInt8), ([124, 124] : List UInt8)] : List (List UInt8)).length : Int)))) (some (([([45] : List UInt8), ([43] : List UInt8), ([33] : List UInt8), ([126] : List UInt8), ([42] : List UInt8), ([47] : List UInt8), ([37] : List UInt8), ([43] : List UInt8), ([45] : List UInt8), ([60, 60] : List UInt8), ([62, 62] : List UInt8), ([60] : List UInt8), ([62] : List UInt8), ([60, 61] : List UInt8), ([62, 61] : List UInt8), ([61, 61] : List UInt8), ([33, 61] : List UInt8), ([38] : List UInt8), ([94] : List UInt8), ([124] : List UInt8), ([38, 38] : List UInt8), ([124, 124] : List UInt8)] : List (List UInt8)).getD (Int.toNat (w64 (a0 - 3))) [])))
def ref05_sign_s : Shp := ⟨64, [.one (.dat (.int .i64))], [], [], ⟨.one (.dat .str), [], []⟩, none⟩
def ref05_sign_p : Plan := .seq [] none (.leaf) (.seq [] none (.leaf) (.seq [] none (.seq [] none (.region [(6, ⟨[(10, .one (.dat .bool))], [], [none]⟩, false)]) (.leaf)) (.leaf)))
def ref05_sign_c (F : Nat) : Ctr E := ⟨ref05_sign_s, fun (x : Int) => ref05_sign F x⟩
theorem ref05_sign_ok (F : Nat) : (ref05_sign_c F).Ok Tryd.prog := Ctr.ok_of (X := ⟨Tryd.prog, tyT, []⟩) (F := F) ⟨E_ok, okN, mixed⟩ (pl := ref05_sign_p) Tryd.func64 (by kernel_rfl) (fun x => by kernel_rfl)
/- (*jobshell/jobshellref05.reader).is -/
def ref05_reader_is (F : Nat)  (a0 : List UInt8) (a1 : List UInt8) (a2 : Int) (a3 : Int) (a4 : Int) : Option (Bool × (List UInt8) × Int × Int × Int) :=
 (cond (a3 != 0)
 (some (true, a1, a2, a3, a4))
 ((ref05_reader_operator F a1 a2 a3 a4).bind fun x2 =>
 some (!(x2.1 == a0), x2.2.1, x2.2.2.1, x2.2.2.2.1, x2.2.2.2.2)) : Option (Bool × (List UInt8) × Int × Int × Int)).bind fun x1 =>
 cond x1.1
 (some (false, x1.2.1, x1.2.2.1, x1.2.2.2.1, x1.2.2.2.2))
 (some (true, x1.2.1, w64 (x1.2.2.1 + (a0.length : Int)), x1.2.2.2.1, x1.2.2.2.2))
def ref05_reader_is_s : Shp := ⟨83, [.one (.ptr 0 0), .one (.dat .str)], [.cells 55 [.dat .str, .dat (.int .i64), .dat (.int .i64), .dat (.int .i64)]], [], ⟨.one (.dat .bool), [some (.cells 55 [.dat .str, .dat (.int .i64), .dat (.int .i64), .dat (.int .i64)])], []⟩, none⟩
def ref05_reader_is_p : Plan := .seq [] none (.leaf) (.seq [] none (.seq [] none (.region [(11, ⟨[(15, .one (.dat .bool))], [some (.cells 55 [.dat .str, .dat (.int .i64), .dat (.int .i64), .dat (.int .i64)])], []⟩, false)]) (.leaf)) (.leaf))
def ref05_reader_is_c (F : Nat) : Ctr E := ⟨ref05_reader_is_s, fun (x : (List UInt8) × (List UInt8) × Int × Int × Int) => ref05_reader_is F x.1 x.2.1 x.2.2.1 x.2.2.2.1 x.2.2.2.2⟩
theorem ref05_reader_is_ok (F : Nat) : (ref05_reader_is_c F).Ok Tryd.prog := Ctr.ok_of (X := ⟨Tryd.prog, tyT, [ref05_reader_operator_c F]⟩) (F := F) ⟨E_ok, okC (ref05_reader_operator_ok F) (okN), mixed⟩ (pl := ref05_reader_is_p) Tryd.func83 (by kernel_rfl) (fun x => by kernel_rfl)
/- jobshell/jobshellref05.value -/
def ref05_value (F : Nat)  (a0 : Int) (a1 : Int) : Option Int :=
 ((ref05_digit F a0).bind fun x2 =>
 cond x2
 (some (w64 (IntKind.wrap .u8 (a0 - 48))))
 ((cond (decide (97 ≤ a0))
 (some (decide (a0 ≤ 102)))
 (some false) : Option Bool).bind fun x3 =>
 cond x3
 (some (w64 ((w64 (IntKind.wrap .u8 (a0 - 97))) + 10)))
 ((cond (decide (65 ≤ a0))
 (some (decide (a0 ≤ 70)))
 (some false) : Option Bool).bind fun x4 =>
 cond x4
 (some (w64 ((w64 (IntKind.wrap .u8 (a0 - 65))) + 10)))
 (some (-1)))) : Option Int).bind fun x1 =>
 cond (decide (a1 ≤ x1))
 (some (-1))
 (some x1)
def ref05_value_s : Shp := ⟨113, [.one (.dat (.int .u8)), .one (.dat (.int .i64))], [], [], ⟨.one (.dat (.int .i64)), [], []⟩, none⟩
def ref05_value_p : Plan := .seq [] none (.leaf) (.seq [] none (.leaf) (.seq [] (some (⟨[(5, .one (.dat (.int .i64)))], [], []⟩, false)) (.seq [] none (.leaf) (.cond (.leaf) (.seq [] none (.region [(6, ⟨[(18, .one (.dat .bool))], [], []⟩, false)]) (.cond (.leaf) (.seq [] none (.region [(6, ⟨[(29, .one (.dat .bool))], [], []⟩, false)]) (.leaf)))))) (.leaf)))
def ref05_value_c (F : Nat) : Ctr E := ⟨ref05_value_s, fun (x : Int × Int) => ref05_value F x.1 x.2⟩
theorem ref05_value_ok (F : Nat) : (ref05_value_c F).Ok Tryd.prog := Ctr.ok_of (X := ⟨Tryd.prog, tyT, [ref05_digit_c F]⟩) (F := F) ⟨E_ok, okC (ref05_digit_ok F) (okN), mixed⟩ (pl := ref05_value_p) Tryd.func113 (by kernel_rfl) (fun x => by kernel_rfl)
/- jobshell/jobshellref05.Constant -/
def ref05_Constant (F : Nat)  (a0 : List UInt8) : Option (Int × Int) :=
 ((cond (decide (2 < (a0.length : Int)))
 (rq (decide (0 < (a0.length : Int))) (some (((a0.getD 0 0).toNat : Int) == 48)))
 (some false) : Option Bool).bind fun x2 =>
 (cond x2
 (rq (decide (1 < (a0.length : Int))) (cond (((a0.getD 1 0).toNat : Int) == 120)
 (some true)
 (rq (decide (1 < (a0.length : Int))) (some (((a0.getD 1 0).toNat : Int) == 88)))))
 (some false) : Option Bool).bind fun x3 =>
 cond x3
 (rq ((decide (2 ≤ (a0.length : Int))) && (decide ((a0.length : Int) ≤ (a0.length : Int)))) (some (sl a0 2 (a0.length : Int), 16)))
 ((cond (decide (1 < (a0.length : Int)))
 (rq (decide (0 < (a0.length : Int))) (some (((a0.getD 0 0).toNat : Int) == 48)))
 (some false) : Option Bool).bind fun x4 =>
 cond x4
 (rq ((decide (1 ≤ (a0.length : Int))) && (decide ((a0.length : Int) ≤ (a0.length : Int)))) (some (sl a0 1 (a0.length : Int), 8)))
 (some (a0, 10))) : Option ((List UInt8) × Int)).bind fun x1 =>
 cond (x1.1 == [])
 (some (0, 6))
 (loopF (σ := Int) (R := Int × Int) (fun rc6 x5 =>
 cond (decide (x5 < (x1.1.length : Int)))
 (rq ((decide (0 ≤ x5)) && (decide (x5 < (x1.1.length : Int)))) ((ref05_value F ((x1.1.getD (Int.toNat x5) 0).toNat : Int) x1.2).bind fun x7 =>
 cond (decide (x7 < 0))
 (some (0, 6))
 (rc6 (w64 (x5 + 1)))))
 (loopF (σ := Int × Int) (R := Int × Int) (fun rc9 x8 =>
 cond (decide (x8.2 < (x1.1.length : Int)))
 (rq ((decide (0 ≤ x8.2)) && (decide (x8.2 < (x1.1.length : Int)))) ((ref05_value F ((x1.1.getD (Int.toNat x8.2) 0).toNat : Int) x1.2).bind fun x10 =>
 rq (!((IntKind.wrap .u64 x1.2) == 0)) (cond (decide (IntKind.wrap .u64 (Int.tdiv (IntKind.wrap .u64 (9223372036854775808 - (IntKind.wrap .u64 x10))) (IntKind.wrap .u64 x1.2)) < x8.1))
 (some (0, 14))
 (rc9 (IntKind.wrap .u64 ((IntKind.wrap .u64 (x8.1 * (IntKind.wrap .u64 x1.2))) + (IntKind.wrap .u64 x10)), w64 (x8.2 + 1))))))
 (some (x8.1, 0))) F (0, 0))) F 0)
def ref05_Constant_s : Shp := ⟨106, [.one (.dat .str)], [], [], ⟨.tup [.dat (.int .u64), .dat (.int .i64)], [], []⟩, none⟩
def ref05_Constant_p : Plan := .seq [] none (.leaf) (.seq [] none (.leaf) (.seq [] (some (⟨[(0, .one (.dat .str)), (4, .one (.dat (.int .i64)))], [], []⟩, false)) (.seq [] none (.region [(8, ⟨[(16, .one (.dat .bool))], [], []⟩, false), (10, ⟨[(26, .one (.dat .bool))], [], []⟩, false)]) (.cond (.leaf) (.seq [] none (.region [(8, ⟨[(36, .one (.dat .bool))], [], []⟩, false)]) (.leaf)))) (.seq [] none (.leaf) (.seq [] none (.seq [] none (.leaf) (.loop [] ⟨[(5, .one (.dat (.int .i64)))], [], []⟩ (.leaf))) (.seq [] none (.leaf) (.seq [] none (.seq [] none (.leaf) (.loop [] ⟨[(6, .one (.dat (.int .u64))), (7, .one (.dat (.int .i64)))], [], []⟩ (.leaf))) (.leaf)))))))
def ref05_Constant_c (F : Nat) : Ctr E := ⟨ref05_Constant_s, fun (x : List UInt8) => ref05_Constant F x⟩
theorem ref05_Constant_ok (F : Nat) : (ref05_Constant_c F).Ok Tryd.prog := Ctr.ok_of (X := ⟨Tryd.prog, tyT, [ref05_value_c F]⟩) (F := F) ⟨E_ok, okC (ref05_value_ok F) (okN), mixed⟩ (pl := ref05_Constant_p) Tryd.func106 (by kernel_rfl) (fun x => by kernel_rfl)
/- jobshell/jobshellref05.Level -/
def ref05_Level (F : Nat)  (a0 : Int) : Option Int :=
 cond (a0 == 26)
 (some 1)
 (cond (a0 == 25)
 (some 2)
 (cond (a0 == 24)
 (some 3)
 (cond (a0 == 23)
 (some 4)
 (cond (a0 == 22)
 (some 5)
 (cond (a0 == 21)
 (some 6)
 (cond (a0 == 20)
 (some 7)
 ((cond (a0 == 18)
 (some true)
 (some (a0 == 19)) : Option Bool).bind fun x1 =>
 cond x1
 (some 8)
 ((cond (decide (14 ≤ a0))
 (some (decide (a0 ≤ 17)))
 (some false) : Option Bool).bind fun x2 =>
 cond x2
 (some 9)
 ((cond (a0 == 12)
 (some true)
 (some (a0 == 13)) : Option Bool).bind fun x3 =>
 cond x3
 (some 10)
 ((cond (a0 == 10)
 (some true)
 (some (a0 == 11)) : Option Bool).bind fun x4 =>
 cond x4
 (some 11)
 ((cond (decide (7 ≤ a0))
 (some (decide (a0 ≤ 9)))
 (some false) : Option Bool).bind fun x5 =>
 cond x5
 (some 12)
 ((cond (decide (3 ≤ a0))
 (some (decide (a0 ≤ 6)))
 (some false) : Option Bool).bind fun x6 =>
 cond x6
 (some 13)
 (some 14)))))))))))))
def ref05_Level_s : Shp := ⟨62, [.one (.dat (.int .i64))], [], [], ⟨.one (.dat (.int .i64)), [], []⟩, none⟩
def ref05_Level_p : Plan := .seq [] none (.leaf) (.seq [] none (.seq [] none (.leaf) (.cond (.leaf) (.seq [] none (.leaf) (.cond (.leaf) (.seq [] none (.leaf) (.cond (.leaf) (.seq [] none (.leaf) (.cond (.leaf) (.seq [] none (.leaf) (.cond (.leaf) (.seq [] none (.leaf) (.cond (.leaf) (.seq [] none (.leaf) (.cond (.leaf) (.seq [] none (.region [(6, ⟨[(30, .one (.dat .bool))], [], []⟩, false)]) (.cond (.leaf) (.seq [] none (.region [(6, ⟨[(37, .one (.dat .bool))], [], []⟩, false)]) (.cond (.leaf) (.seq [] none (.region [(6, ⟨[(44, .one (.dat .bool))], [], []⟩, false)]) (.cond (.leaf) (.seq [] none (.region [(6, ⟨[(51, .one (.dat .bool))], [], []⟩, false)]) (.cond (.leaf) (.seq [] none (.region [(6, ⟨[(58, .one (.dat .bool))], [], []⟩, false)]) (.cond (.leaf) (.seq [] none (.region [(6, ⟨[(65, .one (.dat .bool))], [], []⟩, false)]) (.leaf)))))))))))))))))))))))))) (.leaf))
def ref05_Level_c (F : Nat) : Ctr E := ⟨ref05_Level_s, fun (x : Int) => ref05_Level F x⟩
theorem ref05_Level_ok (F : Nat) : (ref05_Level_c F).Ok Tryd.prog := Ctr.ok_of (X := ⟨Tryd.prog, tyT, []⟩) (F := F) ⟨E_ok, okN, mixed⟩ (pl := ref05_Level_p) Tryd.func62 (by kernel_rfl) (fun x => by kernel_rfl)
/- jobshell/jobshellref05.binary -/
def ref05_binary (F : Nat)  (a0 : List UInt8) (a1 : Int) : Option Int :=
 loopF (σ := Int) (R := Int) (fun rc2 x1 =>
 cond (decide (x1 ≤ 24))
 (((ref05_sign F x1).bind fun x4 =>
 cond (x4 == a0)
 ((ref05_Level F x1).bind fun x5 =>
 some (x5 == a1))
 (some false) : Option Bool).bind fun x3 =>
 cond x3
 (some x1)
 (rc2 (w64 (x1 + 1))))
 (some 0)) F 7
def ref05_binary_s : Shp := ⟨96, [.one (.dat .str), .one (.dat (.int .i64))], [], [], ⟨.one (.dat (.int .i64)), [], []⟩, none⟩
def ref05_binary_p : Plan := .seq [] none (.leaf) (.seq [] none (.seq [] none (.leaf) (.loop [] ⟨[(5, .one (.dat (.int .i64)))], [], []⟩ (.seq [] none (.leaf) (.seq [] none (.seq [] none (.region [(10, ⟨[(19, .one (.dat .bool))], [], []⟩, false)]) (.leaf)) (.leaf))))) (.leaf))
def ref05_binary_c (F : Nat) : Ctr E := ⟨ref05_binary_s, fun (x : (List UInt8) × Int) => ref05_binary F x.1 x.2⟩
theorem ref05_binary_ok (F : Nat) : (ref05_binary_c F).Ok Tryd.prog := Ctr.ok_of (X := ⟨Tryd.prog, tyT, [ref05_sign_c F, ref05_Level_c F]⟩) (F := F) ⟨E_ok, okC (ref05_sign_ok F) (okC (ref05_Level_ok F) (okN)), mixed⟩ (pl := ref05_binary_p) Tryd.func96 (by kernel_rfl) (fun x => by kernel_rfl)
/- (*jobshell/jobshellref05.reader).set -/
def ref05_reader_set_m (F : Nat) (r_ref05_reader_set : (List UInt8) → Int → Int → Int → Option (TExpr × (List UInt8) × Int × Int × Int)) (r_ref05_reader_cond : (List UInt8) → Int → Int → Int → Option (TExpr × (List UInt8) × Int × Int × Int)) (r_ref05_reader_level : Int → (List UInt8) → Int → Int → Int → Option (TExpr × (List UInt8) × Int × Int × Int)) (r_ref05_reader_unary : (List UInt8) → Int → Int → Int → Option (TExpr × (List UInt8) × Int × Int × Int)) (r_ref05_reader_primary : (List UInt8) → Int → Int → Int → Option (TExpr × (List UInt8) × Int × Int × Int)) (a0 : List UInt8) (a1 : Int) (a2 : Int) (a3 : Int) : Option (TExpr × (List UInt8) × Int × Int × Int) :=
 (ref05_reader_blanks F a0 a1 a2 a3).bind fun x1 =>
 (ref05_reader_word F x1.1 x1.2.1 x1.2.2.1 x1.2.2.2).bind fun x2 =>
 jj (σ := (List UInt8) × Int × Int × Int) (R := TExpr × (List UInt8) × Int × Int × Int) ((cond (!(x2 == []))
 (rq (decide (0 < (x2.length : Int))) ((ref05_Letter F ((x2.getD 0 0).toNat : Int)).bind fun x5 =>
 some x5))
 (some false) : Option Bool).bind fun x4 =>
 cond x4
 ((ref05_reader_operator F x1.1 (w64 (x1.2.1 + (x2.length : Int))) x1.2.2.1 x1.2.2.2).bind fun x6 =>
 (ref05_assigning F x6.1).bind fun x7 =>
 cond (decide (0 ≤ x7))
 (((ref01_Name F x2).bind fun x9 =>
 cond (!x9)
 ((ref05_reader_fail F 10 x1.2.1 x6.2.1 x6.2.2.1 x6.2.2.2.1 x6.2.2.2.2).bind fun x10 =>
 some (x10.1, x10.2.1, x10.2.2.1, x10.2.2.2))
 (some (x6.2.1, x6.2.2.1, x6.2.2.2.1, x6.2.2.2.2)) : Option ((List UInt8) × Int × Int × Int)).bind fun x8 =>
 (ref05_assigning F x6.1).bind fun x11 =>
 (r_ref05_reader_set x8.1 (w64 (x8.2.1 + (x6.1.length : Int))) x8.2.2.1 x8.2.2.2).bind fun x12 =>
 some (.inr ((TExpr.mk ((TExpr.mk 26 x11 x2 ([x12.1] : List TExpr)).fOp) ((TExpr.mk 26 x11 x2 ([x12.1] : List TExpr)).fN) ((TExpr.mk 26 x11 x2 ([x12.1] : List TExpr)).fName) ((TExpr.mk 26 x11 x2 ([x12.1] : List TExpr)).fKids)), x12.2.1, x12.2.2.1, x12.2.2.2.1, x12.2.2.2.2)))
 (some (.inl (x6.2.1, x1.2.1, x6.2.2.2.1, x6.2.2.2.2))))
 (some (.inl (x1.1, x1.2.1, x1.2.2.1, x1.2.2.2)))) fun x3 =>
 (r_ref05_reader_cond x3.1 x3.2.1 x3.2.2.1 x3.2.2.2).bind fun x13 =>
 some ((TExpr.mk x13.1.fOp x13.1.fN x13.1.fName x13.1.fKids), x13.2.1, x13.2.2.1, x13.2.2.2.1, x13.2.2.2.2)
def ref05_reader_set_s : Shp := ⟨30, [.one (.ptr 0 0)], [.cells 55 [.dat .str, .dat (.int .i64), .dat (.int .i64), .dat (.int .i64)]], [], ⟨.one (.dat (.ext 0)), [some (.cells 55 [.dat .str, .dat (.int .i64), .dat (.int .i64), .dat (.int .i64)])], []⟩, none⟩
def ref05_reader_set_p : Plan := .seq [] none (.leaf) (.seq [] none (.leaf) (.seq [] none (.leaf) (.seq [] none (.leaf) (.seq [] (some (⟨[], [some (.cells 55 [.dat .str, .dat (.int .i64), .dat (.int .i64), .dat (.int .i64)]), none], []⟩, true)) (.seq [] none (.region [(7, ⟨[(20, .one (.dat .bool))], [none, none], []⟩, false)]) (.cond (.seq [] none (.leaf) (.seq [] none (.seq [] none (.leaf) (.seq [] none (.leaf) (.cond (.seq [] (some (⟨[], [some (.cells 55 [.dat .str, .dat (.int .i64), .dat (.int .i64), .dat (.int .i64)]), none], []⟩, false)) (.leaf) (.leaf)) (.leaf)))) (.leaf))) (.leaf))) (.leaf)))))
/- (*jobshell/jobshellref05.reader).cond -/
def ref05_reader_cond_m (F : Nat) (r_ref05_reader_set : (List UInt8) → Int → Int → Int → Option (TExpr × (List UInt8) × Int × Int × Int)) (r_ref05_reader_cond : (List UInt8) → Int → Int → Int → Option (TExpr × (List UInt8) × Int × Int × Int)) (r_ref05_reader_level : Int → (List UInt8) → Int → Int → Int → Option (TExpr × (List UInt8) × Int × Int × Int)) (r_ref05_reader_unary : (List UInt8) → Int → Int → Int → Option (TExpr × (List UInt8) × Int × Int × Int)) (r_ref05_reader_primary : (List UInt8) → Int → Int → Int → Option (TExpr × (List UInt8) × Int × Int × Int)) (a0 : List UInt8) (a1 : Int) (a2 : Int) (a3 : Int) : Option (TExpr × (List UInt8) × Int × Int × Int) :=
 (r_ref05_reader_level 3 a0 a1 a2 a3).bind fun x1 =>
 (ref05_reader_is F ([63] : List UInt8) x1.2.1 x1.2.2.1 x1.2.2.2.1 x1.2.2.2.2).bind fun x2 =>
 cond (!x2.1)
 (some ((TExpr.mk ((TExpr.mk x1.1.fOp x1.1.fN x1.1.fName x1.1.fKids).fOp) ((TExpr.mk x1.1.fOp x1.1.fN x1.1.fName x1.1.fKids).fN) ((TExpr.mk x1.1.fOp x1.1.fN x1.1.fName x1.1.fKids).fName) ((TExpr.mk x1.1.fOp x1.1.fN x1.1.fName x1.1.fKids).fKids)), x2.2.1, x2.2.2.1, x2.2.2.2.1, x2.2.2.2.2))
 ((r_ref05_reader_set x2.2.1 x2.2.2.1 x2.2.2.2.1 x2.2.2.2.2).bind fun x3 =>
 (ref05_reader_is F ([58] : List UInt8) x3.2.1 x3.2.2.1 x3.2.2.2.1 x3.2.2.2.2).bind fun x4 =>
 cond (!x4.1)
 ((ref05_reader_fail F 6 x4.2.2.1 x4.2.1 x4.2.2.1 x4.2.2.2.1 x4.2.2.2.2).bind fun x5 =>
 some ((TExpr.mk ((TExpr.mk x1.1.fOp x1.1.fN x1.1.fName x1.1.fKids).fOp) ((TExpr.mk x1.1.fOp x1.1.fN x1.1.fName x1.1.fKids).fN) ((TExpr.mk x1.1.fOp x1.1.fN x1.1.fName x1.1.fKids).fName) ((TExpr.mk x1.1.fOp x1.1.fN x1.1.fName x1.1.fKids).fKids)), x5.1, x5.2.1, x5.2.2.1, x5.2.2.2))
 ((r_ref05_reader_cond x4.2.1 x4.2.2.1 x4.2.2.2.1 x4.2.2.2.2).bind fun x6 =>
 some ((TExpr.mk ((TExpr.mk 25 0 [] ([(TExpr.mk x1.1.fOp x1.1.fN x1.1.fName x1.1.fKids), (TExpr.mk x3.1.fOp x3.1.fN x3.1.fName x3.1.fKids), x6.1] : List TExpr)).fOp) ((TExpr.mk 25 0 [] ([(TExpr.mk x1.1.fOp x1.1.fN x1.1.fName x1.1.fKids), (TExpr.mk x3.1.fOp x3.1.fN x3.1.fName x3.1.fKids), x6.1] : List TExpr)).fN) ((TExpr.mk 25 0 [] ([(TExpr.mk x1.1.fOp x1.1.fN x1.1.fName x1.1.fKids), (TExpr.mk x3.1.fOp x3.1.fN x3.1.fName x3.1.fKids), x6.1] : List TExpr)).fName) ((TExpr.mk 25 0 [] ([(TExpr.mk x1.1.fOp x1.1.fN x1.1.fName x1.1.fKids), (TExpr.mk x3.1.fOp x3.1.fN x3.1.fName x3.1.fKids), x6.1] : List TExpr)).fKids)), x6.2.1, x6.2.2.1, x6.2.2.2.1, x6.2.2.2.2)))
def ref05_reader_cond_s : Shp := ⟨57, [.one (.ptr 0 0)], [.cells 55 [.dat .str, .dat (.int .i64), .dat (.int .i64), .dat (.int .i64)]], [], ⟨.one (.dat (.ext 0)), [some (.cells 55 [.dat .str, .dat (.int .i64), .dat (.int .i64), .dat (.int .i64)])], []⟩, none⟩
def ref05_reader_cond_p : Plan := .seq [] none (.leaf) (.seq [] none (.leaf) (.seq [] none (.leaf) (.seq [] none (.leaf) (.seq [] none (.leaf) (.seq [] none (.drawP [2, 3] [] [⟨[(0, true), (1, true), (2, true), (3, false), (4, false), (5, false), (6, false)], none⟩]) (.leaf))))))
/- (*jobshell/jobshellref05.reader).level -/
def ref05_reader_level_m (F : Nat) (r_ref05_reader_set : (List UInt8) → Int → Int → Int → Option (TExpr × (List UInt8) × Int × Int × Int)) (r_ref05_reader_cond : (List UInt8) → Int → Int → Int → Option (TExpr × (List UInt8) × Int × Int × Int)) (r_ref05_reader_level : Int → (List UInt8) → Int → Int → Int → Option (TExpr × (List UInt8) × Int × Int × Int)) (r_ref05_reader_unary : (List UInt8) → Int → Int → Int → Option (TExpr × (List UInt8) × Int × Int × Int)) (r_ref05_reader_primary : (List UInt8) → Int → Int → Int → Option (TExpr × (List UInt8) × Int × Int × Int)) (a0 : Int) (a1 : List UInt8) (a2 : Int) (a3 : Int) (a4 : Int) : Option (TExpr × (List UInt8) × Int × Int × Int) :=
 cond (decide (12 < a0))
 ((r_ref05_reader_unary a1 a2 a3 a4).bind fun x1 =>
 some ((TExpr.mk x1.1.fOp x1.1.fN x1.1.fName x1.1.fKids), x1.2.1, x1.2.2.1, x1.2.2.2.1, x1.2.2.2.2))
 ((r_ref05_reader_level (w64 (a0 + 1)) a1 a2 a3 a4).bind fun x2 =>
 loopF (σ := (List UInt8) × Int × Int × Int × Int × Int × (List UInt8) × (List TExpr)) (R := TExpr × (List UInt8) × Int × Int × Int) (fun rc4 x3 =>
 cond (x3.2.2.1 == 0)
 ((ref05_reader_operator F x3.1 x3.2.1 x3.2.2.1 x3.2.2.2.1).bind fun x5 =>
 (ref05_binary F x5.1 a0).bind fun x6 =>
 cond (x6 == 0)
 (some ((TExpr.mk ((TExpr.mk x3.2.2.2.2.1 x3.2.2.2.2.2.1 x3.2.2.2.2.2.2.1 x3.2.2.2.2.2.2.2).fOp) ((TExpr.mk x3.2.2.2.2.1 x3.2.2.2.2.2.1 x3.2.2.2.2.2.2.1 x3.2.2.2.2.2.2.2).fN) ((TExpr.mk x3.2.2.2.2.1 x3.2.2.2.2.2.1 x3.2.2.2.2.2.2.1 x3.2.2.2.2.2.2.2).fName) ((TExpr.mk x3.2.2.2.2.1 x3.2.2.2.2.2.1 x3.2.2.2.2.2.2.1 x3.2.2.2.2.2.2.2).fKids)), x5.2.1, x5.2.2.1, x5.2.2.2.1, x5.2.2.2.2))
 ((r_ref05_reader_level (w64 (a0 + 1)) x5.2.1 (w64 (x5.2.2.1 + (x5.1.length : Int))) x5.2.2.2.1 x5.2.2.2.2).bind fun x7 =>
 rc4 (x7.2.1, x7.2.2.1, x7.2.2.2.1, x7.2.2.2.2, (TExpr.mk x6 0 [] ([(TExpr.mk x3.2.2.2.2.1 x3.2.2.2.2.2.1 x3.2.2.2.2.2.2.1 x3.2.2.2.2.2.2.2), x7.1] : List TExpr)).fOp, (TExpr.mk x6 0 [] ([(TExpr.mk x3.2.2.2.2.1 x3.2.2.2.2.2.1 x3.2.2.2.2.2.2.1 x3.2.2.2.2.2.2.2), x7.1] : List TExpr)).fN, (TExpr.mk x6 0 [] ([(TExpr.mk x3.2.2.2.2.1 x3.2.2.2.2.2.1 x3.2.2.2.2.2.2.1 x3.2.2.2.2.2.2.2), x7.1] : List TExpr)).fName, (TExpr.mk x6 0 [] ([(TExpr.mk x3.2.2.2.2.1 x3.2.2.2.2.2.1 x3.2.2.2.2.2.2.1 x3.2.2.2.2.2.2.2), x7.1] : List TExpr)).fKids)))
 (some ((TExpr.mk ((TExpr.mk x3.2.2.2.2.1 x3.2.2.2.2.2.1 x3.2.2.2.2.2.2.1 x3.2.2.2.2.2.2.2).fOp) ((TExpr.mk x3.2.2.2.2.1 x3.2.2.2.2.2.1 x3.2.2.2.2.2.2.1 x3.2.2.2.2.2.2.2).fN) ((TExpr.mk x3.2.2.2.2.1 x3.2.2.2.2.2.1 x3.2.2.2.2.2.2.1 x3.2.2.2.2.2.2.2).fName) ((TExpr.mk x3.2.2.2.2.1 x3.2.2.2.2.2.1 x3.2.2.2.2.2.2.1 x3.2.2.2.2.2.2.2).fKids)), x3.1, x3.2.1, x3.2.2.1, x3.2.2.2.1))) F (x2.2.1, x2.2.2.1, x2.2.2.2.1, x2.2.2.2.2, x2.1.fOp, x2.1.fN, x2.1.fName, x2.1.fKids))
def ref05_reader_level_s : Shp := ⟨82, [.one (.ptr 0 0), .one (.dat (.int .i64))], [.cells 55 [.dat .str, .dat (.int .i64), .dat (.int .i64), .dat (.int .i64)]], [], ⟨.one (.dat (.ext 0)), [some (.cells 55 [.dat .str, .dat (.int .i64), .dat (.int .i64), .dat (.int .i64)])], []⟩, none⟩
def ref05_reader_level_p : Plan := .seq [] none (.leaf) (.seq [] none (.leaf) (.seq [] none (.leaf) (.seq [] none (.loop [] ⟨[], [some (.cells 55 [.dat .str, .dat (.int .i64), .dat (.int .i64), .dat (.int .i64)]), none, some (.cells 26 [.dat (.int .i64), .dat (.int .i64), .dat .str, .dat (.lst (.ext 0))])], []⟩ (.seq [] none (.leaf) (.seq [] none (.leaf) (.seq [] none (.leaf) (.seq [] none (.leaf) (.seq [] none (.leaf) (.drawP [2] [8] [⟨[(0, true), (1, true), (2, true), (3, true), (4, true), (5, false), (6, false), (7, false), (8, false)], none⟩]))))))) (.leaf))))
/- (*jobshell/jobshellref05.reader).unary -/
def ref05_reader_unary_m (F : Nat) (r_ref05_reader_set : (List UInt8) → Int → Int → Int → Option (TExpr × (List UInt8) × Int × Int × Int)) (r_ref05_reader_cond : (List UInt8) → Int → Int → Int → Option (TExpr × (List UInt8) × Int × Int × Int)) (r_ref05_reader_level : Int → (List UInt8) → Int → Int → Int → Option (TExpr × (List UInt8) × Int × Int × Int)) (r_ref05_reader_unary : (List UInt8) → Int → Int → Int → Option (TExpr × (List UInt8) × Int × Int × Int)) (r_ref05_reader_primary : (List UInt8) → Int → Int → Int → Option (TExpr × (List UInt8) × Int × Int × Int)) (a0 : List UInt8) (a1 : Int) (a2 : Int) (a3 : Int) : Option (TExpr × (List UInt8) × Int × Int × Int) :=
 (ref05_reader_operator F a0 a1 a2 a3).bind fun x1 =>
 loopF (σ := Int) (R := TExpr × (List UInt8) × Int × Int × Int) (fun rc3 x2 =>
 (cond (decide (x2 ≤ 6))
 (some (x1.2.2.2.1 == 0))
 (some false) : Option Bool).bind fun x4 =>
 cond x4
 ((ref05_sign F x2).bind fun x5 =>
 cond (x1.1 == x5)
 ((r_ref05_reader_unary x1.2.1 (w64 (x1.2.2.1 + (x1.1.length : Int))) x1.2.2.2.1 x1.2.2.2.2).bind fun x6 =>
 some ((TExpr.mk ((TExpr.mk x2 0 [] ([x6.1] : List TExpr)).fOp) ((TExpr.mk x2 0 [] ([x6.1] : List TExpr)).fN) ((TExpr.mk x2 0 [] ([x6.1] : List TExpr)).fName) ((TExpr.mk x2 0 [] ([x6.1] : List TExpr)).fKids)), x6.2.1, x6.2.2.1, x6.2.2.2.1, x6.2.2.2.2))
 (rc3 (w64 (x2 + 1))))
 ((r_ref05_reader_primary x1.2.1 x1.2.2.1 x1.2.2.2.1 x1.2.2.2.2).bind fun x7 =>
 some ((TExpr.mk x7.1.fOp x7.1.fN x7.1.fName x7.1.fKids), x7.2.1, x7.2.2.1, x7.2.2.2.1, x7.2.2.2.2))) F 3
def ref05_reader_unary_s : Shp := ⟨95, [.one (.ptr 0 0)], [.cells 55 [.dat .str, .dat (.int .i64), .dat (.int .i64), .dat (.int .i64)]], [], ⟨.one (.dat (.ext 0)), [some (.cells 55 [.dat .str, .dat (.int .i64), .dat (.int .i64), .dat (.int .i64)])], []⟩, none⟩
def ref05_reader_unary_p : Plan := .seq [] none (.leaf) (.seq [] none (.leaf) (.seq [] none (.seq [] none (.leaf) (.loop [] ⟨[(4, .one (.dat (.int .i64)))], [none, none], []⟩ (.seq [] none (.seq [] none (.region [(9, ⟨[(15, .one (.dat .bool))], [none, none], []⟩, false)]) (.leaf)) (.leaf)))) (.leaf)))
/- (*jobshell/jobshellref05.reader).primary -/
def ref05_reader_primary_m (F : Nat) (r_ref05_reader_set : (List UInt8) → Int → Int → Int → Option (TExpr × (List UInt8) × Int × Int × Int)) (r_ref05_reader_cond : (List UInt8) → Int → Int → Int → Option (TExpr × (List UInt8) × Int × Int × Int)) (r_ref05_reader_level : Int → (List UInt8) → Int → Int → Int → Option (TExpr × (List UInt8) × Int × Int × Int)) (r_ref05_reader_unary : (List UInt8) → Int → Int → Int → Option (TExpr × (List UInt8) × Int × Int × Int)) (r_ref05_reader_primary : (List UInt8) → Int → Int → Int → Option (TExpr × (List UInt8) × Int × Int × Int)) (a0 : List UInt8) (a1 : Int) (a2 : Int) (a3 : Int) : Option (TExpr × (List UInt8) × Int × Int × Int) :=
 (ref05_reader_is F ([40] : List UInt8) a0 a1 a2 a3).bind fun x1 =>
 cond x1.1
 ((r_ref05_reader_set x1.2.1 x1.2.2.1 x1.2.2.2.1 x1.2.2.2.2).bind fun x2 =>
 (ref05_reader_is F ([41] : List UInt8) x2.2.1 x2.2.2.1 x2.2.2.2.1 x2.2.2.2.2).bind fun x3 =>
 cond (!x3.1)
 ((ref05_reader_fail F 6 x3.2.2.1 x3.2.1 x3.2.2.1 x3.2.2.2.1 x3.2.2.2.2).bind fun x4 =>
 some ((TExpr.mk ((TExpr.mk x2.1.fOp x2.1.fN x2.1.fName x2.1.fKids).fOp) ((TExpr.mk x2.1.fOp x2.1.fN x2.1.fName x2.1.fKids).fN) ((TExpr.mk x2.1.fOp x2.1.fN x2.1.fName x2.1.fKids).fName) ((TExpr.mk x2.1.fOp x2.1.fN x2.1.fName x2.1.fKids).fKids)), x4.1, x4.2.1, x4.2.2.1, x4.2.2.2))
 (some ((TExpr.mk ((TExpr.mk x2.1.fOp x2.1.fN x2.1.fName x2.1.fKids).fOp) ((TExpr.mk x2.1.fOp x2.1.fN x2.1.fName x2.1.fKids).fN) ((TExpr.mk x2.1.fOp x2.1.fN x2.1.fName x2.1.fKids).fName) ((TExpr.mk x2.1.fOp x2.1.fN x2.1.fName x2.1.fKids).fKids)), x3.2.1, x3.2.2.1, x3.2.2.2.1, x3.2.2.2.2)))
 ((ref05_reader_blanks F x1.2.1 x1.2.2.1 x1.2.2.2.1 x1.2.2.2.2).bind fun x5 =>
 (ref05_reader_word F x5.1 x5.2.1 x5.2.2.1 x5.2.2.2).bind fun x6 =>
 cond (x5.2.2.1 != 0)
 (some ((TExpr.mk ((TExpr.mk 0 0 [] []).fOp) ((TExpr.mk 0 0 [] []).fN) ((TExpr.mk 0 0 [] []).fName) ((TExpr.mk 0 0 [] []).fKids)), x5.1, x5.2.1, x5.2.2.1, x5.2.2.2))
 (cond (x6 == [])
 ((ref05_reader_fail F 6 x5.2.1 x5.1 x5.2.1 x5.2.2.1 x5.2.2.2).bind fun x7 =>
 some ((TExpr.mk ((TExpr.mk 0 0 [] []).fOp) ((TExpr.mk 0 0 [] []).fN) ((TExpr.mk 0 0 [] []).fName) ((TExpr.mk 0 0 [] []).fKids)), x7.1, x7.2.1, x7.2.2.1, x7.2.2.2))
 (rq (decide (0 < (x6.length : Int))) ((ref05_Letter F ((x6.getD 0 0).toNat : Int)).bind fun x8 =>
 cond x8
 (((ref01_Name F x6).bind fun x10 =>
 cond (!x10)
 ((ref05_reader_fail F 10 x5.2.1 x5.1 x5.2.1 x5.2.2.1 x5.2.2.2).bind fun x11 =>
 some (x11.1, x11.2.1, x11.2.2.1, x11.2.2.2))
 (some (x5.1, x5.2.1, x5.2.2.1, x5.2.2.2)) : Option ((List UInt8) × Int × Int × Int)).bind fun x9 =>
 some ((TExpr.mk ((TExpr.mk 2 0 x6 []).fOp) ((TExpr.mk 2 0 x6 []).fN) ((TExpr.mk 2 0 x6 []).fName) ((TExpr.mk 2 0 x6 []).fKids)), x9.1, w64 (x9.2.1 + (x6.length : Int)), x9.2.2.1, x9.2.2.2))
 ((ref05_Constant F x6).bind fun x12 =>
 ((cond (x12.2 == 0)
 (some (decide (9223372036854775807 < x12.1)))
 (some false) : Option Bool).bind fun x14 =>
 cond x14
 (some 14)
 (some x12.2) : Option Int).bind fun x13 =>
 cond (x13 != 0)
 ((ref05_reader_fail F x13 x5.2.1 x5.1 x5.2.1 x5.2.2.1 x5.2.2.2).bind fun x15 =>
 some ((TExpr.mk ((TExpr.mk 0 0 [] []).fOp) ((TExpr.mk 0 0 [] []).fN) ((TExpr.mk 0 0 [] []).fName) ((TExpr.mk 0 0 [] []).fKids)), x15.1, x15.2.1, x15.2.2.1, x15.2.2.2))
 (some ((TExpr.mk ((TExpr.mk 1 (w64 x12.1) [] []).fOp) ((TExpr.mk 1 (w64 x12.1) [] []).fN) ((TExpr.mk 1 (w64 x12.1) [] []).fName) ((TExpr.mk 1 (w64 x12.1) [] []).fKids)), x5.1, w64 (x5.2.1 + (x6.length : Int)), x5.2.2.1, x5.2.2.2)))))))
def ref05_reader_primary_s : Shp := ⟨100, [.one (.ptr 0 0)], [.cells 55 [.dat .str, .dat (.int .i64), .dat (.int .i64), .dat (.int .i64)]], [], ⟨.one (.dat (.ext 0)), [some (.cells 55 [.dat .str, .dat (.int .i64), .dat (.int .i64), .dat (.int .i64)])], []⟩, none⟩
def ref05_reader_primary_p : Plan := .seq [] none (.leaf) (.seq [] none (.leaf) (.seq [] none (.leaf) (.seq [] none (.leaf) (.seq [] none (.leaf) (.seq [] none (.leaf) (.seq [] none (.seq [] none (.leaf) (.cond (.seq [] (some (⟨[], [some (.cells 55 [.dat .str, .dat (.int .i64), .dat (.int .i64), .dat (.int .i64)]), none], []⟩, false)) (.leaf) (.leaf)) (.leaf))) (.seq [] none (.leaf) (.seq [] (some (⟨[(6, .one (.dat (.int .i64)))], [none, none], []⟩, false)) (.seq [] none (.region [(6, ⟨[(74, .one (.dat .bool))], [none, none], []⟩, false)]) (.leaf)) (.leaf)))))))))
def ref05_reader_set_G (F : Nat) : Nat → ((List UInt8) → Int → Int → Int → Option (TExpr × (List UInt8) × Int × Int × Int)) × ((List UInt8) → Int → Int → Int → Option (TExpr × (List UInt8) × Int × Int × Int)) × (Int → (List UInt8) → Int → Int → Int → Option (TExpr × (List UInt8) × Int × Int × Int)) × ((List UInt8) → Int → Int → Int → Option (TExpr × (List UInt8) × Int × Int × Int)) × ((List UInt8) → Int → Int → Int → Option (TExpr × (List UInt8) × Int × Int × Int))
  | 0 => (fun _ _ _ _ => none, fun _ _ _ _ => none, fun _ _ _ _ _ => none, fun _ _ _ _ => none, fun _ _ _ _ => none)
  | n + 1 => (ref05_reader_set_m F (ref05_reader_set_G F n).1 (ref05_reader_set_G F n).2.1 (ref05_reader_set_G F n).2.2.1 (ref05_reader_set_G F n).2.2.2.1 (ref05_reader_set_G F n).2.2.2.2, ref05_reader_cond_m F (ref05_reader_set_G F n).1 (ref05_reader_set_G F n).2.1 (ref05_reader_set_G F n).2.2.1 (ref05_reader_set_G F n).2.2.2.1 (ref05_reader_set_G F n).2.2.2.2, ref05_reader_level_m F (ref05_reader_set_G F n).1 (ref05_reader_set_G F n).2.1 (ref05_reader_set_G F n).2.2.1 (ref05_reader_set_G F n).2.2.2.1 (ref05_reader_set_G F n).2.2.2.2, ref05_reader_unary_m F (ref05_reader_set_G F n).1 (ref05_reader_set_G F n).2.1 (ref05_reader_set_G F n).2.2.1 (ref05_reader_set_G F n).2.2.2.1 (ref05_reader_set_G F n).2.2.2.2, ref05_reader_primary_m F (ref05_reader_set_G F n).1 (ref05_reader_set_G F n).2.1 (ref05_reader_set_G F n).2.2.1 (ref05_reader_set_G F n).2.2.2.1 (ref05_reader_set_G F n).2.2.2.2)
def ref05_reader_set_n (F n : Nat) : (List UInt8) → Int → Int → Int → Option (TExpr × (List UInt8) × Int × Int × Int) := (ref05_reader_set_G F n).1
def ref05_reader_cond_n (F n : Nat) : (List UInt8) → Int → Int → Int → Option (TExpr × (List UInt8) × Int × Int × Int) := (ref05_reader_set_G F n).2.1
def ref05_reader_level_n (F n : Nat) : Int → (List UInt8) → Int → Int → Int → Option (TExpr × (List UInt8) × Int × Int × Int) := (ref05_reader_set_G F n).2.2.1
def ref05_reader_unary_n (F n : Nat) : (List UInt8) → Int → Int → Int → Option (TExpr × (List UInt8) × Int × Int × Int) := (ref05_reader_set_G F n).2.2.2.1
def ref05_reader_primary_n (F n : Nat) : (List UInt8) → Int → Int → Int → Option (TExpr × (List UInt8) × Int × Int × Int) := (ref05_reader_set_G F n).2.2.2.2
def ref05_reader_set (F : Nat) (a0 : List UInt8) (a1 : Int) (a2 : Int) (a3 : Int) : Option (TExpr × (List UInt8) × Int × Int × Int) := ref05_reader_set_n F F a0 a1 a2 a3
def ref05_reader_cond (F : Nat) (a0 : List UInt8) (a1 : Int) (a2 : Int) (a3 : Int) : Option (TExpr × (List UInt8) × Int × Int × Int) := ref05_reader_cond_n F F a0 a1 a2 a3
def ref05_reader_level (F : Nat) (a0 : Int) (a1 : List UInt8) (a2 : Int) (a3 : Int) (a4 : Int) : Option (TExpr × (List UInt8) × Int × Int × Int) := ref05_reader_level_n F F a0 a1 a2 a3 a4
def ref05_reader_unary (F : Nat) (a0 : List UInt8) (a1 : Int) (a2 : Int) (a3 : Int) : Option (TExpr × (List UInt8) × Int × Int × Int) := ref05_reader_unary_n F F a0 a1 a2 a3
def ref05_reader_primary (F : Nat) (a0 : List UInt8) (a1 : Int) (a2 : Int) (a3 : Int) : Option (TExpr × (List UInt8) × Int × Int × Int) := ref05_reader_primary_n F F a0 a1 a2 a3
def ref05_reader_set_cn (F n : Nat) : Ctr E := ⟨ref05_reader_set_s, fun (x : (List UInt8) × Int × Int × Int) => ref05_reader_set_n F n x.1 x.2.1 x.2.2.1 x.2.2.2⟩
def ref05_reader_set_c (F : Nat) : Ctr E := ⟨ref05_reader_set_s, fun (x : (List UInt8) × Int × Int × Int) => ref05_reader_set F x.1 x.2.1 x.2.2.1 x.2.2.2⟩
def ref05_reader_cond_cn (F n : Nat) : Ctr E := ⟨ref05_reader_cond_s, fun (x : (List UInt8) × Int × Int × Int) => ref05_reader_cond_n F n x.1 x.2.1 x.2.2.1 x.2.2.2⟩
def ref05_reader_cond_c (F : Nat) : Ctr E := ⟨ref05_reader_cond_s, fun (x : (List UInt8) × Int × Int × Int) => ref05_reader_cond F x.1 x.2.1 x.2.2.1 x.2.2.2⟩
def ref05_reader_level_cn (F n : Nat) : Ctr E := ⟨ref05_reader_level_s, fun (x : Int × (List UInt8) × Int × Int × Int) => ref05_reader_level_n F n x.1 x.2.1 x.2.2.1 x.2.2.2.1 x.2.2.2.2⟩
def ref05_reader_level_c (F : Nat) : Ctr E := ⟨ref05_reader_level_s, fun (x : Int × (List UInt8) × Int × Int × Int) => ref05_reader_level F x.1 x.2.1 x.2.2.1 x.2.2.2.1 x.2.2.2.2⟩
def ref05_reader_unary_cn (F n : Nat) : Ctr E := ⟨ref05_reader_unary_s, fun (x : (List UInt8) × Int × Int × Int) => ref05_reader_unary_n F n x.1 x.2.1 x.2.2.1 x.2.2.2⟩
def ref05_reader_unary_c (F : Nat) : Ctr E := ⟨ref05_reader_unary_s, fun (x : (List UInt8) × Int × Int × Int) => ref05_reader_unary F x.1 x.2.1 x.2.2.1 x.2.2.2⟩
def ref05_reader_primary_cn (F n : Nat) : Ctr E := ⟨ref05_reader_primary_s, fun (x : (List UInt8) × Int × Int × Int) => ref05_reader_primary_n F n x.1 x.2.1 x.2.2.1 x.2.2.2⟩
def ref05_reader_primary_c (F : Nat) : Ctr E := ⟨ref05_reader_primary_s, fun (x : (List UInt8) × Int × Int × Int) => ref05_reader_primary F x.1 x.2.1 x.2.2.1 x.2.2.2⟩
theorem ref05_reader_set_st (F n : Nat) (h : (ref05_reader_set_cn F n).Ok Tryd.prog ∧ (ref05_reader_cond_cn F n).Ok Tryd.prog ∧ (ref05_reader_level_cn F n).Ok Tryd.prog ∧ (ref05_reader_unary_cn F n).Ok Tryd.prog ∧ (ref05_reader_primary_cn F n).Ok Tryd.prog) : (ref05_reader_set_cn F (n + 1)).Ok Tryd.prog := Ctr.ok_of (X := ⟨Tryd.prog, tyT, [ref05_reader_blanks_c F, ref05_reader_word_c F, ref05_Letter_c F, ref05_reader_operator_c F, ref05_assigning_c F, ref01_Name_c F, ref05_reader_fail_c F, ref05_reader_set_cn F n, ref05_reader_cond_cn F n]⟩) (F := F) ⟨E_ok, okC (ref05_reader_blanks_ok F) (okC (ref05_reader_word_ok F) (okC (ref05_Letter_ok F) (okC (ref05_reader_operator_ok F) (okC (ref05_assigning_ok F) (okC (ref01_Name_ok F) (okC (ref05_reader_fail_ok F) (okC h.1 (okC h.2.1 (okN))))))))), mixed⟩ (pl := ref05_reader_set_p) Tryd.func30 (by kernel_rfl) (fun x => by kernel_rfl)
theorem ref05_reader_cond_st (F n : Nat) (h : (ref05_reader_set_cn F n).Ok Tryd.prog ∧ (ref05_reader_cond_cn F n).Ok Tryd.prog ∧ (ref05_reader_level_cn F n).Ok Tryd.prog ∧ (ref05_reader_unary_cn F n).Ok Tryd.prog ∧ (ref05_reader_primary_cn F n).Ok Tryd.prog) : (ref05_reader_cond_cn F (n + 1)).Ok Tryd.prog := Ctr.ok_of (X := ⟨Tryd.prog, tyT, [ref05_reader_level_cn F n, ref05_reader_is_c F, ref05_reader_set_cn F n, ref05_reader_fail_c F, ref05_reader_cond_cn F n]⟩) (F := F) ⟨E_ok, okC h.2.2.1 (okC (ref05_reader_is_ok F) (okC h.1 (okC (ref05_reader_fail_ok F) (okC h.2.1 (okN))))), mixed⟩ (pl := ref05_reader_cond_p) Tryd.func57 (by kernel_rfl) (fun x => by kernel_rfl)
theorem ref05_reader_level_st (F n : Nat) (h : (ref05_reader_set_cn F n).Ok Tryd.prog ∧ (ref05_reader_cond_cn F n).Ok Tryd.prog ∧ (ref05_reader_level_cn F n).Ok Tryd.prog ∧ (ref05_reader_unary_cn F n).Ok Tryd.prog ∧ (ref05_reader_primary_cn F n).Ok Tryd.prog) : (ref05_reader_level_cn F (n + 1)).Ok Tryd.prog := Ctr.ok_of (X := ⟨Tryd.prog, tyT, [ref05_reader_unary_cn F n, ref05_reader_level_cn F n, ref05_reader_operator_c F, ref05_binary_c F]⟩) (F := F) ⟨E_ok, okC h.2.2.2.1 (okC h.2.2.1 (okC (ref05_reader_operator_ok F) (okC (ref05_binary_ok F) (okN)))), mixed⟩ (pl := ref05_reader_level_p) Tryd.func82 (by kernel_rfl) (fun x => by kernel_rfl)
theorem ref05_reader_unary_st (F n : Nat) (h : (ref05_reader_set_cn F n).Ok Tryd.prog ∧ (ref05_reader_cond_cn F n).Ok Tryd.prog ∧ (ref05_reader_level_cn F n).Ok Tryd.prog ∧ (ref05_reader_unary_cn F n).Ok Tryd.prog ∧ (ref05_reader_primary_cn F n).Ok Tryd.prog) : (ref05_reader_unary_cn F (n + 1)).Ok Tryd.prog := Ctr.ok_of (X := ⟨Tryd.prog, tyT, [ref05_reader_operator_c F, ref05_sign_c F, ref05_reader_unary_cn F n, ref05_reader_primary_cn F n]⟩) (F := F) ⟨E_ok, okC (ref05_reader_operator_ok F) (okC (ref05_sign_ok F) (okC h.2.2.2.1 (okC h.2.2.2.2 (okN)))), mixed⟩ (pl := ref05_reader_unary_p) Tryd.func95 (by kernel_rfl) (fun x => by kernel_rfl)
theorem ref05_reader_primary_st (F n : Nat) (h : (ref05_reader_set_cn F n).Ok Tryd.prog ∧ (ref05_reader_cond_cn F n).Ok Tryd.prog ∧ (ref05_reader_level_cn F n).Ok Tryd.prog ∧ (ref05_reader_unary_cn F n).Ok Tryd.prog ∧ (ref05_reader_primary_cn F n).Ok Tryd.prog) : (ref05_reader_primary_cn F (n + 1)).Ok Tryd.prog := Ctr.ok_of (X := ⟨Tryd.prog, tyT, [ref05_reader_is_c F, ref05_reader_set_cn F n, ref05_reader_fail_c F, ref05_reader_blanks_c F, ref05_reader_word_c F, ref05_Letter_c F, ref01_Name_c F, ref05_Constant_c F]⟩) (F := F) ⟨E_ok, okC (ref05_reader_is_ok F) (okC h.1 (okC (ref05_reader_fail_ok F) (okC (ref05_reader_blanks_ok F) (okC (ref05_reader_word_ok F) (okC (ref05_Letter_ok F) (okC (ref01_Name_ok F) (okC (ref05_Constant_ok F) (okN)))))))), mixed⟩ (pl := ref05_reader_primary_p) Tryd.func100 (by kernel_rfl) (fun x => by kernel_rfl)
theorem ref05_reader_set_okn (F : Nat) : ∀ n, (ref05_reader_set_cn F n).Ok Tryd.prog ∧ (ref05_reader_cond_cn F n).Ok Tryd.prog ∧ (ref05_reader_level_cn F n).Ok Tryd.prog ∧ (ref05_reader_unary_cn F n).Ok Tryd.prog ∧ (ref05_reader_primary_cn F n).Ok Tryd.prog
  | 0 => ⟨(fun x y h => nomatch (show none = some y from h)), (fun x y h => nomatch (show none = some y from h)), (fun x y h => nomatch (show none = some y from h)), (fun x y h => nomatch (show none = some y from h)), (fun x y h => nomatch (show none = some y from h))⟩
  | n + 1 => by
    have h := ref05_reader_set_okn F n
    exact ⟨ref05_reader_set_st F n h,
      ref05_reader_cond_st F n h,
      ref05_reader_level_st F n h,
      ref05_reader_unary_st F n h,
      ref05_reader_primary_st F n h⟩
theorem ref05_reader_set_ok (F : Nat) : (ref05_reader_set_c F).Ok Tryd.prog := (ref05_reader_set_okn F F).1
theorem ref05_reader_cond_ok (F : Nat) : (ref05_reader_cond_c F).Ok Tryd.prog := (ref05_reader_set_okn F F).2.1
theorem ref05_reader_level_ok (F : Nat) : (ref05_reader_level_c F).Ok Tryd.prog := (ref05_reader_set_okn F F).2.2.1
theorem ref05_reader_unary_ok (F : Nat) : (ref05_reader_unary_c F).Ok Tryd.prog := (ref05_reader_set_okn F F).2.2.2.1
theorem ref05_reader_primary_ok (F : Nat) : (ref05_reader_primary_c F).Ok Tryd.prog := (ref05_reader_set_okn F F).2.2.2.2
/- jobshell/jobshellref05.Levels -/
def ref05_Levels_m (F : Nat) (r_ref05_Levels : TExpr → Option Int) (a0 : TExpr) : Option Int :=
 loopF (σ := Int × Int) (R := Int) (fun rc2 x1 =>
 cond (decide (x1.2 < (a0.fKids.length : Int)))
 (rq ((decide (0 ≤ x1.2)) && (decide (x1.2 < (a0.fKids.length : Int)))) ((r_ref05_Levels (a0.fKids.getD (Int.toNat x1.2) dTExpr)).bind fun x3 =>
 rc2 (cond (decide (x1.1 < x3)) x3 x1.1, w64 (x1.2 + 1))))
 (some (w64 (x1.1 + 1)))) F (0, 0)
def ref05_Levels_s : Shp := ⟨32, [.one (.dat (.ext 0))], [], [], ⟨.one (.dat (.int .i64)), [], []⟩, none⟩
def ref05_Levels_p : Plan := .seq [] none (.leaf) (.seq [] none (.leaf) (.seq [] none (.seq [] none (.leaf) (.loop [] ⟨[(3, .one (.dat (.int .i64))), (4, .one (.dat (.int .i64)))], [none], []⟩ (.leaf))) (.leaf)))
def ref05_Levels_n (F : Nat) : Nat → TExpr → Option Int
  | 0 => fun _ => none
  | n + 1 => ref05_Levels_m F (ref05_Levels_n F n)
def ref05_Levels (F : Nat) (a0 : TExpr) : Option Int := ref05_Levels_n F F a0
def ref05_Levels_cn (F n : Nat) : Ctr E := ⟨ref05_Levels_s, fun (x : TExpr) => ref05_Levels_n F n x⟩
def ref05_Levels_c (F : Nat) : Ctr E := ⟨ref05_Levels_s, fun (x : TExpr) => ref05_Levels F x⟩
theorem ref05_Levels_st (F n : Nat) (h : (ref05_Levels_cn F n).Ok Tryd.prog) : (ref05_Levels_cn F (n + 1)).Ok Tryd.prog := Ctr.ok_of (X := ⟨Tryd.prog, tyT, [ref05_Levels_cn F n]⟩) (F := F) ⟨E_ok, okC h (okN), mixed⟩ (pl := ref05_Levels_p) Tryd.func32 (by kernel_rfl) (fun x => by kernel_rfl)
theorem ref05_Levels_okn (F : Nat) : ∀ n, (ref05_Levels_cn F n).Ok Tryd.prog
  | 0 => (fun x y h => nomatch (show none = some y from h))
  | n + 1 => by
    have h := ref05_Levels_okn F n
    exact ref05_Levels_st F n h
theorem ref05_Levels_ok (F : Nat) : (ref05_Levels_c F).Ok Tryd.prog := (ref05_Levels_okn F F)
/- jobshell/jobshellref05.Parse -/
def ref05_Parse (F : Nat)  (a0 : List UInt8) : Option (TExpr × Int × Int) :=
 cond (decide (4096 < (a0.length : Int)))
 (some ((TExpr.mk ((TExpr.mk 0 0 [] []).fOp) ((TExpr.mk 0 0 [] []).fN) ((TExpr.mk 0 0 [] []).fName) ((TExpr.mk 0 0 [] []).fKids)), 0, 3))
 ((ref05_reader_blanks F ((Treader.mk a0 0 0 0).fs) ((Treader.mk a0 0 0 0).fat) ((Treader.mk a0 0 0 0).fe) ((Treader.mk a0 0 0 0).fpos)).bind fun x1 =>
 cond (x1.2.1 == (a0.length : Int))
 (some ((TExpr.mk ((TExpr.mk 1 0 [] []).fOp) ((TExpr.mk 1 0 [] []).fN) ((TExpr.mk 1 0 [] []).fName) ((TExpr.mk 1 0 [] []).fKids)), 0, 0))
 ((ref05_reader_set F x1.1 x1.2.1 x1.2.2.1 x1.2.2.2).bind fun x2 =>
 (ref05_reader_blanks F x2.2.1 x2.2.2.1 x2.2.2.2.1 x2.2.2.2.2).bind fun x3 =>
 (cond (decide (x3.2.1 < (a0.length : Int)))
 ((ref05_reader_fail F 6 x3.2.1 x3.1 x3.2.1 x3.2.2.1 x3.2.2.2).bind fun x5 =>
 some (x5.1, x5.2.1, x5.2.2.1, x5.2.2.2))
 (some (x3.1, x3.2.1, x3.2.2.1, x3.2.2.2)) : Option ((List UInt8) × Int × Int × Int)).bind fun x4 =>
 cond (x4.2.2.1 != 0)
 (some ((TExpr.mk ((TExpr.mk 0 0 [] []).fOp) ((TExpr.mk 0 0 [] []).fN) ((TExpr.mk 0 0 [] []).fName) ((TExpr.mk 0 0 [] []).fKids)), x4.2.2.2, x4.2.2.1))
 ((ref05_Levels F (TExpr.mk x2.1.fOp x2.1.fN x2.1.fName x2.1.fKids)).bind fun x6 =>
 cond (decide (32 < x6))
 (some ((TExpr.mk ((TExpr.mk 0 0 [] []).fOp) ((TExpr.mk 0 0 [] []).fN) ((TExpr.mk 0 0 [] []).fName) ((TExpr.mk 0 0 [] []).fKids)), 0, 5))
 (some ((TExpr.mk ((TExpr.mk x2.1.fOp x2.1.fN x2.1.fName x2.1.fKids).fOp) ((TExpr.mk x2.1.fOp x2.1.fN x2.1.fName x2.1.fKids).fN) ((TExpr.mk x2.1.fOp x2.1.fN x2.1.fName x2.1.fKids).fName) ((TExpr.mk x2.1.fOp x2.1.fN x2.1.fName x2.1.fKids).fKids)), 0, 0)))))
def ref05_Parse_s : Shp := ⟨13, [.one (.dat .str)], [], [], ⟨.tup [.dat (.ext 0), .dat (.int .i64), .dat (.int .i64)], [], []⟩, none⟩
def ref05_Parse_p : Plan := .seq [] none (.leaf) (.seq [] none (.leaf) (.seq [] none (.leaf) (.seq [] none (.leaf) (.seq [] none (.leaf) (.seq [] none (.leaf) (.seq [] none (.leaf) (.seq [] (some (⟨[], [none, some (.cells 55 [.dat .str, .dat (.int .i64), .dat (.int .i64), .dat (.int .i64)]), none], []⟩, false)) (.leaf) (.seq [] none (.seq [] none (.leaf) (.cond (.seq [] none (.drawP [1] [] [⟨[(0, true), (1, true), (2, true), (3, true), (4, true), (5, true), (6, true), (7, true), (8, true), (9, false), (10, false), (11, false)], none⟩]) (.leaf)) (.leaf))) (.leaf)))))))))
def ref05_Parse_c (F : Nat) : Ctr E := ⟨ref05_Parse_s, fun (x : List UInt8) => ref05_Parse F x⟩
theorem ref05_Parse_ok (F : Nat) : (ref05_Parse_c F).Ok Tryd.prog := Ctr.ok_of (X := ⟨Tryd.prog, tyT, [ref05_reader_blanks_c F, ref05_reader_set_c F, ref05_reader_fail_c F, ref05_Levels_c F]⟩) (F := F) ⟨E_ok, okC (ref05_reader_blanks_ok F) (okC (ref05_reader_set_ok F) (okC (ref05_reader_fail_ok F) (okC (ref05_Levels_ok F) (okN)))), mixed⟩ (pl := ref05_Parse_p) Tryd.func13 (by kernel_rfl) (fun x => by kernel_rfl)
/- jobshell/jobshellref05.Same -/
def ref05_Same_m (F : Nat) (r_ref05_Same : TExpr → TExpr → Option Bool) (a0 : TExpr) (a1 : TExpr) : Option Bool :=
 (cond (a0.fOp != a1.fOp)
 (some true)
 (some (a0.fN != a1.fN)) : Option Bool).bind fun x1 =>
 (cond x1
 (some true)
 (some (!(a0.fName == a1.fName))) : Option Bool).bind fun x2 =>
 (cond x2
 (some true)
 (some ((a0.fKids.length : Int) != (a1.fKids.length : Int))) : Option Bool).bind fun x3 =>
 cond x3
 (some false)
 (loopF (σ := Int) (R := Bool) (fun rc5 x4 =>
 cond (decide (x4 < (a0.fKids.length : Int)))
 (rq ((decide (0 ≤ x4)) && (decide (x4 < (a0.fKids.length : Int)))) (rq ((decide (0 ≤ x4)) && (decide (x4 < (a1.fKids.length : Int)))) ((r_ref05_Same (a0.fKids.getD (Int.toNat x4) dTExpr) (a1.fKids.getD (Int.toNat x4) dTExpr)).bind fun x6 =>
 cond (!x6)
 (some false)
 (rc5 (w64 (x4 + 1))))))
 (some true)) F 0)
def ref05_Same_s : Shp := ⟨14, [.one (.dat (.ext 0)), .one (.dat (.ext 0))], [], [], ⟨.one (.dat .bool), [], []⟩, none⟩
def ref05_Same_p : Plan := .seq [] none (.leaf) (.seq [] none (.seq [] none (.region [(12, ⟨[(17, .one (.dat .bool))], [none, none], []⟩, false), (7, ⟨[(24, .one (.dat .bool))], [none, none], []⟩, false), (9, ⟨[(33, .one (.dat .bool))], [none, none], []⟩, false)]) (.leaf)) (.seq [] none (.seq [] none (.leaf) (.loop [] ⟨[(5, .one (.dat (.int .i64)))], [none, none], []⟩ (.seq [] none (.leaf) (.seq [] none (.seq [] none (.draw [⟨true, 10, none⟩, ⟨false, 2, none⟩]) (.leaf)) (.leaf))))) (.leaf)))
def ref05_Same_n (F : Nat) : Nat → TExpr → TExpr → Option Bool
  | 0 => fun _ _ => none
  | n + 1 => ref05_Same_m F (ref05_Same_n F n)
def ref05_Same (F : Nat) (a0 : TExpr) (a1 : TExpr) : Option Bool := ref05_Same_n F F a0 a1
def ref05_Same_cn (F n : Nat) : Ctr E := ⟨ref05_Same_s, fun (x : TExpr × TExpr) => ref05_Same_n F n x.1 x.2⟩
def ref05_Same_c (F : Nat) : Ctr E := ⟨ref05_Same_s, fun (x : TExpr × TExpr) => ref05_Same F x.1 x.2⟩
theorem ref05_Same_st (F n : Nat) (h : (ref05_Same_cn F n).Ok Tryd.prog) : (ref05_Same_cn F (n + 1)).Ok Tryd.prog := Ctr.ok_of (X := ⟨Tryd.prog, tyT, [ref05_Same_cn F n]⟩) (F := F) ⟨E_ok, okC h (okN), mixed⟩ (pl := ref05_Same_p) Tryd.func14 (by kernel_rfl) (fun x => by kernel_rfl)
theorem ref05_Same_okn (F : Nat) : ∀ n, (ref05_Same_cn F n).Ok Tryd.prog
  | 0 => (fun x y h => nomatch (show none = some y from h))
  | n + 1 => by
    have h := ref05_Same_okn F n
    exact ref05_Same_st F n h
theorem ref05_Same_ok (F : Nat) : (ref05_Same_c F).Ok Tryd.prog := (ref05_Same_okn F F)
/- jobshell/jobshelllaw05.ArithParses -/
def law05_ArithParses (F : Nat)  (a0 : List UInt8) : Option Bool :=
 (law05_short F a0).bind fun x1 =>
 cond (!x1)
 ((law05_awake 60).bind fun x2 =>
 some x2)
 ((arith_Parse F a0).bind fun x3 =>
 (ref05_Parse F a0).bind fun x4 =>
 ((ref05_Same F (TExpr.mk x3.1.fOp x3.1.fN x3.1.fName x3.1.fKids) (TExpr.mk x4.1.fOp x4.1.fN x4.1.fName x4.1.fKids)).bind fun x6 =>
 cond x6
 (some (x3.2.1 == x4.2.1))
 (some false) : Option Bool).bind fun x5 =>
 (cond x5
 (some (x3.2.2 == x4.2.2))
 (some false) : Option Bool).bind fun x7 =>
 (cond x7
 ((law05_awake 60).bind fun x9 =>
 some x9)
 (some false) : Option Bool).bind fun x8 =>
 some x8)
def law05_ArithParses_s : Shp := ⟨3, [.one (.dat .str)], [], [], ⟨.one (.dat .bool), [], []⟩, none⟩
def law05_ArithParses_p : Plan := .seq [] none (.leaf) (.seq [] none (.leaf) (.seq [] none (.leaf) (.seq [] none (.leaf) (.seq [] none (.region [(8, ⟨[(32, .one (.dat .bool))], [none, none], []⟩, false), (5, ⟨[(37, .one (.dat .bool))], [none, none], []⟩, false), (3, ⟨[(40, .one (.dat .bool))], [none, none], []⟩, false)]) (.leaf)))))
def law05_ArithParses_c (F : Nat) : Ctr E := ⟨law05_ArithParses_s, fun (x : List UInt8) => law05_ArithParses F x⟩
theorem law05_ArithParses_ok (F : Nat) : (law05_ArithParses_c F).Ok Tryd.prog := Ctr.ok_of (X := ⟨Tryd.prog, tyT, [law05_short_c F, law05_awake_c 60, arith_Parse_c F, ref05_Parse_c F, ref05_Same_c F]⟩) (F := F) ⟨E_ok, okC (law05_short_ok F) (okC (law05_awake_ok 60) (okC (arith_Parse_ok F) (okC (ref05_Parse_ok F) (okC (ref05_Same_ok F) (okN))))), mixed⟩ (pl := law05_ArithParses_p) Tryd.func3 (by kernel_rfl) (fun x => by kernel_rfl)
/- jobshell/jobshellref05.small -/
def ref05_small_m (F : Nat) (r_ref05_small : TExpr → Int → Int → Option Int) (a0 : TExpr) (a1 : Int) (a2 : Int) : Option Int :=
 (cond (decide (a1 < 1))
 (some true)
 (some (decide (a2 < 1))) : Option Bool).bind fun x1 =>
 (cond x1
 (some true)
 (some (decide (60 < (a0.fName.length : Int)))) : Option Bool).bind fun x2 =>
 cond x2
 (some (-1))
 (loopF (σ := Int × Int) (R := Int) (fun rc4 x3 =>
 (cond (decide (x3.2 < (a0.fKids.length : Int)))
 (some (decide (0 ≤ x3.1)))
 (some false) : Option Bool).bind fun x5 =>
 cond x5
 (rq ((decide (0 ≤ x3.2)) && (decide (x3.2 < (a0.fKids.length : Int)))) ((r_ref05_small (a0.fKids.getD (Int.toNat x3.2) dTExpr) x3.1 (w64 (a2 - 1))).bind fun x6 =>
 rc4 (x6, w64 (x3.2 + 1))))
 (some x3.1)) F (w64 (a1 - 1), 0))
def ref05_small_s : Shp := ⟨33, [.one (.dat (.ext 0)), .one (.dat (.int .i64)), .one (.dat (.int .i64))], [], [], ⟨.one (.dat (.int .i64)), [], []⟩, none⟩
def ref05_small_p : Plan := .seq [] none (.leaf) (.seq [] none (.seq [] none (.region [(6, ⟨[(13, .one (.dat .bool))], [none], []⟩, false), (6, ⟨[(19, .one (.dat .bool))], [none], []⟩, false)]) (.leaf)) (.seq [] none (.leaf) (.seq [] none (.seq [] none (.leaf) (.loop [] ⟨[(1, .one (.dat (.int .i64))), (7, .one (.dat (.int .i64)))], [none], []⟩ (.seq [] none (.seq [] none (.region [(9, ⟨[(30, .one (.dat .bool))], [none], []⟩, false)]) (.leaf)) (.leaf)))) (.leaf))))
def ref05_small_n (F : Nat) : Nat → TExpr → Int → Int → Option Int
  | 0 => fun _ _ _ => none
  | n + 1 => ref05_small_m F (ref05_small_n F n)
def ref05_small (F : Nat) (a0 : TExpr) (a1 : Int) (a2 : Int) : Option Int := ref05_small_n F F a0 a1 a2
def ref05_small_cn (F n : Nat) : Ctr E := ⟨ref05_small_s, fun (x : TExpr × Int × Int) => ref05_small_n F n x.1 x.2.1 x.2.2⟩
def ref05_small_c (F : Nat) : Ctr E := ⟨ref05_small_s, fun (x : TExpr × Int × Int) => ref05_small F x.1 x.2.1 x.2.2⟩
theorem ref05_small_st (F n : Nat) (h : (ref05_small_cn F n).Ok Tryd.prog) : (ref05_small_cn F (n + 1)).Ok Tryd.prog := Ctr.ok_of (X := ⟨Tryd.prog, tyT, [ref05_small_cn F n]⟩) (F := F) ⟨E_ok, okC h (okN), mixed⟩ (pl := ref05_small_p) Tryd.func33 (by kernel_rfl) (fun x => by kernel_rfl)
theorem ref05_small_okn (F : Nat) : ∀ n, (ref05_small_cn F n).Ok Tryd.prog
  | 0 => (fun x y h => nomatch (show none = some y from h))
  | n + 1 => by
    have h := ref05_small_okn F n
    exact ref05_small_st F n h
theorem ref05_small_ok (F : Nat) : (ref05_small_c F).Ok Tryd.prog := (ref05_small_okn F F)
/- jobshell/jobshellref05.Small -/
def ref05_Small (F : Nat)  (a0 : TExpr) (a1 : Int) : Option Bool :=
 (ref05_small F (TExpr.mk a0.fOp a0.fN a0.fName a0.fKids) a1 40).bind fun x1 =>
 some (decide (0 ≤ x1))
def ref05_Small_s : Shp := ⟨15, [.one (.dat (.ext 0)), .one (.dat (.int .i64))], [], [], ⟨.one (.dat .bool), [], []⟩, none⟩
def ref05_Small_p : Plan := .leaf
def ref05_Small_c (F : Nat) : Ctr E := ⟨ref05_Small_s, fun (x : TExpr × Int) => ref05_Small F x.1 x.2⟩
theorem ref05_Small_ok (F : Nat) : (ref05_Small_c F).Ok Tryd.prog := Ctr.ok_of (X := ⟨Tryd.prog, tyT, [ref05_small_c F]⟩) (F := F) ⟨E_ok, okC (ref05_small_ok F) (okN), mixed⟩ (pl := ref05_Small_p) Tryd.func15 (by kernel_rfl) (fun x => by kernel_rfl)
/- jobshell/jobshellref05.kids -/
def ref05_kids (F : Nat)  (a0 : Int) : Option Int :=
 (cond (a0 == 1)
 (some true)
 (some (a0 == 2)) : Option Bool).bind fun x1 =>
 cond x1
 (some 0)
 ((cond (decide (3 ≤ a0))
 (some (decide (a0 ≤ 6)))
 (some false) : Option Bool).bind fun x2 =>
 (cond x2
 (some true)
 (some (a0 == 26)) : Option Bool).bind fun x3 =>
 cond x3
 (some 1)
 ((cond (decide (7 ≤ a0))
 (some (decide (a0 ≤ 24)))
 (some false) : Option Bool).bind fun x4 =>
 cond x4
 (some 2)
 (cond (a0 == 25)
 (some 3)
 (some (-1)))))
def ref05_kids_s : Shp := ⟨68, [.one (.dat (.int .i64))], [], [], ⟨.one (.dat (.int .i64)), [], []⟩, none⟩
def ref05_kids_p : Plan := .seq [] none (.leaf) (.seq [] none (.seq [] none (.region [(6, ⟨[(9, .one (.dat .bool))], [], []⟩, false)]) (.cond (.leaf) (.seq [] none (.region [(6, ⟨[(16, .one (.dat .bool))], [], []⟩, false), (4, ⟨[(20, .one (.dat .bool))], [], []⟩, false)]) (.cond (.leaf) (.seq [] none (.region [(6, ⟨[(27, .one (.dat .bool))], [], []⟩, false)]) (.leaf)))))) (.leaf))
def ref05_kids_c (F : Nat) : Ctr E := ⟨ref05_kids_s, fun (x : Int) => ref05_kids F x⟩
theorem ref05_kids_ok (F : Nat) : (ref05_kids_c F).Ok Tryd.prog := Ctr.ok_of (X := ⟨Tryd.prog, tyT, []⟩) (F := F) ⟨E_ok, okN, mixed⟩ (pl := ref05_kids_p) Tryd.func68 (by kernel_rfl) (fun x => by kernel_rfl)
/- jobshell/jobshellref05.compound -/
def ref05_compound (F : Nat)  (a0 : Int) : Option Bool :=
 (cond (a0 == 0)
 (some true)
 (cond (decide (7 ≤ a0))
 (some (decide (a0 ≤ 13)))
 (some false)) : Option Bool).bind fun x1 =>
 (cond x1
 (some true)
 (cond (decide (20 ≤ a0))
 (some (decide (a0 ≤ 22)))
 (some false)) : Option Bool).bind fun x2 =>
 some x2
def ref05_compound_s : Shp := ⟨69, [.one (.dat (.int .i64))], [], [], ⟨.one (.dat .bool), [], []⟩, none⟩
def ref05_compound_p : Plan := .seq [] none (.leaf) (.seq [] none (.region [(10, ⟨[(12, .one (.dat .bool))], [], []⟩, false), (8, ⟨[(20, .one (.dat .bool))], [], []⟩, false)]) (.leaf))
def ref05_compound_c (F : Nat) : Ctr E := ⟨ref05_compound_s, fun (x : Int) => ref05_compound F x⟩
theorem ref05_compound_ok (F : Nat) : (ref05_compound_c F).Ok Tryd.prog := Ctr.ok_of (X := ⟨Tryd.prog, tyT, []⟩) (F := F) ⟨E_ok, okN, mixed⟩ (pl := ref05_compound_p) Tryd.func69 (by kernel_rfl) (fun x => by kernel_rfl)
/- jobshell/jobshellref05.valid -/
def ref05_valid_m (F : Nat) (r_ref05_valid : TExpr → Int → Option Int) (a0 : TExpr) (a1 : Int) : Option Int :=
 cond (decide (32 ≤ a1))
 (some 5)
 ((cond (a0.fOp == 2)
 (some true)
 (some (a0.fOp == 26)) : Option Bool).bind fun x1 =>
 (ref05_kids F a0.fOp).bind fun x2 =>
 cond ((a0.fKids.length : Int) != x2)
 (some 1)
 (cond (x1 == (a0.fName == []))
 (some 1)
 ((cond (a0.fOp == 1)
 (some (decide (a0.fN < 0)))
 (some false) : Option Bool).bind fun x3 =>
 (cond x3
 (some true)
 (cond (a0.fOp == 26)
 ((ref05_compound F a0.fN).bind fun x5 =>
 some (!x5))
 (some false)) : Option Bool).bind fun x4 =>
 (cond x4
 (some true)
 (cond (a0.fOp != 1)
 (cond (a0.fOp != 26)
 (some (a0.fN != 0))
 (some false))
 (some false)) : Option Bool).bind fun x6 =>
 cond x6
 (some 1)
 ((cond x1
 ((ref01_Name F a0.fName).bind fun x8 =>
 some (!x8))
 (some false) : Option Bool).bind fun x7 =>
 cond x7
 (some 10)
 (loopF (σ := Int) (R := Int) (fun rc10 x9 =>
 cond (decide (x9 < (a0.fKids.length : Int)))
 (rq ((decide (0 ≤ x9)) && (decide (x9 < (a0.fKids.length : Int)))) ((r_ref05_valid (a0.fKids.getD (Int.toNat x9) dTExpr) (w64 (a1 + 1))).bind fun x11 =>
 cond (x11 != 0)
 (some x11)
 (rc10 (w64 (x9 + 1)))))
 (some 0)) F 0)))))
def ref05_valid_s : Shp := ⟨39, [.one (.dat (.ext 0)), .one (.dat (.int .i64))], [], [], ⟨.one (.dat (.int .i64)), [], []⟩, none⟩
def ref05_valid_p : Plan := .seq [] none (.leaf) (.seq [] none (.leaf) (.seq [] none (.region [(8, ⟨[(17, .one (.dat .bool))], [none], []⟩, false)]) (.seq [] none (.seq [] none (.drawP [0] [] [⟨[(0, true), (1, true), (2, true), (3, true), (4, true), (5, false), (6, false), (7, false), (8, true), (9, false), (10, false), (11, false), (12, false), (13, false)], none⟩]) (.leaf)) (.seq [] none (.seq [] none (.region [(8, ⟨[(39, .one (.dat .bool))], [none], []⟩, false), (11, ⟨[(50, .one (.dat .bool))], [none], []⟩, false), (15, ⟨[(65, .one (.dat .bool))], [none], []⟩, false)]) (.leaf)) (.seq [] none (.seq [] none (.region [(7, ⟨[(72, .one (.dat .bool))], [none], []⟩, false)]) (.leaf)) (.seq [] none (.seq [] none (.leaf) (.loop [] ⟨[(6, .one (.dat (.int .i64)))], [none], []⟩ (.leaf))) (.leaf)))))))
def ref05_valid_n (F : Nat) : Nat → TExpr → Int → Option Int
  | 0 => fun _ _ => none
  | n + 1 => ref05_valid_m F (ref05_valid_n F n)
def ref05_valid (F : Nat) (a0 : TExpr) (a1 : Int) : Option Int := ref05_valid_n F F a0 a1
def ref05_valid_cn (F n : Nat) : Ctr E := ⟨ref05_valid_s, fun (x : TExpr × Int) => ref05_valid_n F n x.1 x.2⟩
def ref05_valid_c (F : Nat) : Ctr E := ⟨ref05_valid_s, fun (x : TExpr × Int) => ref05_valid F x.1 x.2⟩
theorem ref05_valid_st (F n : Nat) (h : (ref05_valid_cn F n).Ok Tryd.prog) : (ref05_valid_cn F (n + 1)).Ok Tryd.prog := Ctr.ok_of (X := ⟨Tryd.prog, tyT, [ref05_kids_c F, ref05_compound_c F, ref01_Name_c F, ref05_valid_cn F n]⟩) (F := F) ⟨E_ok, okC (ref05_kids_ok F) (okC (ref05_compound_ok F) (okC (ref01_Name_ok F) (okC h (okN)))), mixed⟩ (pl := ref05_valid_p) Tryd.func39 (by kernel_rfl) (fun x => by kernel_rfl)
theorem ref05_valid_okn (F : Nat) : ∀ n, (ref05_valid_cn F n).Ok Tryd.prog
  | 0 => (fun x y h => nomatch (show none = some y from h))
  | n + 1 => by
    have h := ref05_valid_okn F n
    exact ref05_valid_st F n h
theorem ref05_valid_ok (F : Nat) : (ref05_valid_c F).Ok Tryd.prog := (ref05_valid_okn F F)
/- jobshell/jobshellref05.Valid -/
def ref05_Valid (F : Nat)  (a0 : TExpr) : Option Int :=
 (ref05_valid F (TExpr.mk a0.fOp a0.fN a0.fName a0.fKids) 0).bind fun x1 =>
 some x1
def ref05_Valid_s : Shp := ⟨19, [.one (.dat (.ext 0))], [], [], ⟨.one (.dat (.int .i64)), [], []⟩, none⟩
def ref05_Valid_p : Plan := .leaf
def ref05_Valid_c (F : Nat) : Ctr E := ⟨ref05_Valid_s, fun (x : TExpr) => ref05_Valid F x⟩
theorem ref05_Valid_ok (F : Nat) : (ref05_Valid_c F).Ok Tryd.prog := Ctr.ok_of (X := ⟨Tryd.prog, tyT, [ref05_valid_c F]⟩) (F := F) ⟨E_ok, okC (ref05_valid_ok F) (okN), mixed⟩ (pl := ref05_Valid_p) Tryd.func19 (by kernel_rfl) (fun x => by kernel_rfl)
/- jobshell/jobshellref05.digits -/
def ref05_digits (F : Nat)  (a0 : Int) : Option (List UInt8) :=
 loopF (σ := Int × (List UInt8)) (R := List UInt8) (fun rc2 x1 =>
 cond (decide (9 < x1.1))
 (rq (decide ((toBytes ([IntKind.wrap .u8 (IntKind.wrap .u64 (48 + (Int.tmod x1.1 10)))] : List Int)).length + x1.2.length ≤ 9223372036854775807)) (rc2 (IntKind.wrap .u64 (Int.tdiv x1.1 10), (toBytes ([IntKind.wrap .u8 (IntKind.wrap .u64 (48 + (Int.tmod x1.1 10)))] : List Int)) ++ x1.2)))
 (rq (decide ((toBytes ([IntKind.wrap .u8 (IntKind.wrap .u64 (48 + x1.1))] : List Int)).length + x1.2.length ≤ 9223372036854775807)) (some ((toBytes ([IntKind.wrap .u8 (IntKind.wrap .u64 (48 + x1.1))] : List Int)) ++ x1.2)))) F (a0, [])
def ref05_digits_s : Shp := ⟨86, [.one (.dat (.int .u64))], [], [], ⟨.one (.dat .str), [], []⟩, none⟩
def ref05_digits_p : Plan := .seq [] none (.leaf) (.seq [] none (.leaf) (.seq [] none (.loop [] ⟨[(0, .one (.dat (.int .u64))), (3, .one (.dat .str))], [], []⟩ (.leaf)) (.leaf)))
def ref05_digits_c (F : Nat) : Ctr E := ⟨ref05_digits_s, fun (x : Int) => ref05_digits F x⟩
theorem ref05_digits_ok (F : Nat) : (ref05_digits_c F).Ok Tryd.prog := Ctr.ok_of (X := ⟨Tryd.prog, tyT, []⟩) (F := F) ⟨E_ok, okN, mixed⟩ (pl := ref05_digits_p) Tryd.func86 (by kernel_rfl) (fun x => by kernel_rfl)
/- jobshell/jobshellref05.Decimal -/
def ref05_Decimal (F : Nat)  (a0 : Int) : Option (List UInt8) :=
 cond (decide (a0 < 0))
 ((ref05_digits F (IntKind.wrap .u64 ((IntKind.wrap .u64 (w64 (0 - (w64 (a0 + 1))))) + 1))).bind fun x1 =>
 rq (decide (([45] : List UInt8).length + x1.length ≤ 9223372036854775807)) (some (([45] : List UInt8) ++ x1)))
 ((ref05_digits F (IntKind.wrap .u64 a0)).bind fun x2 =>
 some x2)
def ref05_Decimal_s : Shp := ⟨63, [.one (.dat (.int .i64))], [], [], ⟨.one (.dat .str), [], []⟩, none⟩
def ref05_Decimal_p : Plan := .leaf
def ref05_Decimal_c (F : Nat) : Ctr E := ⟨ref05_Decimal_s, fun (x : Int) => ref05_Decimal F x⟩
theorem ref05_Decimal_ok (F : Nat) : (ref05_Decimal_c F).Ok Tryd.prog := Ctr.ok_of (X := ⟨Tryd.prog, tyT, [ref05_digits_c F]⟩) (F := F) ⟨E_ok, okC (ref05_digits_ok F) (okN), mixed⟩ (pl := ref05_Decimal_p) Tryd.func63 (by kernel_rfl) (fun x => by kernel_rfl)
/- jobshell/jobshellref05.show -/
def ref05_show_m (F : Nat) (r_ref05_show : TExpr → Option (List UInt8)) (r_ref05_operand : TExpr → Int → Option (List UInt8)) (a0 : TExpr) : Option (List UInt8) :=
 (ref05_Level F a0.fOp).bind fun x1 =>
 cond (a0.fOp == 1)
 ((ref05_Decimal F a0.fN).bind fun x2 =>
 some x2)
 (cond (a0.fOp == 2)
 (some a0.fName)
 (cond (x1 == 13)
 (rq (decide (0 < (a0.fKids.length : Int))) ((ref05_sign F a0.fOp).bind fun x3 =>
 (r_ref05_operand (a0.fKids.getD 0 dTExpr) 13).bind fun x4 =>
 rq (decide (x3.length + x4.length ≤ 9223372036854775807)) (some (x3 ++ x4))))
 ((cond (a0.fOp == 26)
 (some (a0.fN == 0))
 (some false) : Option Bool).bind fun x5 =>
 cond x5
 (rq (decide (a0.fName.length + ([32, 61, 32] : List UInt8).length ≤ 9223372036854775807)) (rq (decide (0 < (a0.fKids.length : Int))) ((r_ref05_operand (a0.fKids.getD 0 dTExpr) 1).bind fun x6 =>
 rq (decide ((a0.fName ++ ([32, 61, 32] : List UInt8)).length + x6.length ≤ 9223372036854775807)) (some ((a0.fName ++ ([32, 61, 32] : List UInt8)) ++ x6)))))
 (cond (a0.fOp == 26)
 (rq (decide (a0.fName.length + ([32] : List UInt8).length ≤ 9223372036854775807)) (rq (decide (0 < (a0.fKids.length : Int))) ((ref05_sign F a0.fN).bind fun x7 =>
 rq (decide ((a0.fName ++ ([32] : List UInt8)).length + x7.length ≤ 9223372036854775807)) (rq (decide (((a0.fName ++ ([32] : List UInt8)) ++ x7).length + ([61, 32] : List UInt8).length ≤ 9223372036854775807)) ((r_ref05_operand (a0.fKids.getD 0 dTExpr) 1).bind fun x8 =>
 rq (decide ((((a0.fName ++ ([32] : List UInt8)) ++ x7) ++ ([61, 32] : List UInt8)).length + x8.length ≤ 9223372036854775807)) (some ((((a0.fName ++ ([32] : List UInt8)) ++ x7) ++ ([61, 32] : List UInt8)) ++ x8)))))))
 (cond (a0.fOp == 25)
 (rq (decide (0 < (a0.fKids.length : Int))) (rq (decide (1 < (a0.fKids.length : Int))) (rq (decide (2 < (a0.fKids.length : Int))) ((r_ref05_operand (a0.fKids.getD 0 dTExpr) 3).bind fun x9 =>
 rq (decide (x9.length + ([32, 63, 32] : List UInt8).length ≤ 9223372036854775807)) ((r_ref05_operand (a0.fKids.getD 1 dTExpr) 1).bind fun x10 =>
 rq (decide ((x9 ++ ([32, 63, 32] : List UInt8)).length + x10.length ≤ 9223372036854775807)) (rq (decide (((x9 ++ ([32, 63, 32] : List UInt8)) ++ x10).length + ([32, 58, 32] : List UInt8).length ≤ 9223372036854775807)) ((r_ref05_operand (a0.fKids.getD 2 dTExpr) 2).bind fun x11 =>
 rq (decide ((((x9 ++ ([32, 63, 32] : List UInt8)) ++ x10) ++ ([32, 58, 32] : List UInt8)).length + x11.length ≤ 9223372036854775807)) (some ((((x9 ++ ([32, 63, 32] : List UInt8)) ++ x10) ++ ([32, 58, 32] : List UInt8)) ++ x11)))))))))
 (rq (decide (0 < (a0.fKids.length : Int))) (rq (decide (1 < (a0.fKids.length : Int))) ((r_ref05_operand (a0.fKids.getD 0 dTExpr) x1).bind fun x12 =>
 rq (decide (x12.length + ([32] : List UInt8).length ≤ 9223372036854775807)) ((ref05_sign F a0.fOp).bind fun x13 =>
 rq (decide ((x12 ++ ([32] : List UInt8)).length + x13.length ≤ 9223372036854775807)) (rq (decide (((x12 ++ ([32] : List UInt8)) ++ x13).length + ([32] : List UInt8).length ≤ 9223372036854775807)) ((r_ref05_operand (a0.fKids.getD 1 dTExpr) (w64 (x1 + 1))).bind fun x14 =>
 rq (decide ((((x12 ++ ([32] : List UInt8)) ++ x13) ++ ([32] : List UInt8)).length + x14.length ≤ 9223372036854775807)) (some ((((x12 ++ ([32] : List UInt8)) ++ x13) ++ ([32] : List UInt8)) ++ x14)))))))))))))
def ref05_show_s : Shp := ⟨37, [.one (.dat (.ext 0))], [], [], ⟨.one (.dat .str), [], []⟩, none⟩
def ref05_show_p : Plan := .seq [] none (.leaf) (.seq [] none (.leaf) (.seq [] none (.seq [] none (.leaf) (.cond (.leaf) (.seq [] none (.leaf) (.cond (.leaf) (.seq [] none (.leaf) (.cond (.seq [] none (.drawP [0] [] [⟨[(0, true), (1, true), (3, true), (4, true), (5, true), (6, true), (2, false), (7, false), (8, false), (9, false)], none⟩]) (.leaf)) (.seq [] none (.region [(8, ⟨[(40, .one (.dat .bool))], [none], []⟩, false)]) (.cond (.seq [] none (.drawP [0] [] [⟨[(0, true), (1, true), (2, true), (3, true), (4, true), (5, true), (6, true), (7, false), (8, false), (9, false)], none⟩]) (.leaf)) (.seq [] none (.leaf) (.cond (.seq [] none (.drawP [0] [] [⟨[(0, true), (1, true), (2, true), (3, true), (4, true), (8, true), (9, true), (10, true), (11, true), (5, false), (6, true), (7, true), (12, false), (13, false), (14, false)], none⟩]) (.leaf)) (.seq [] none (.leaf) (.cond (.seq [] none (.drawP [0] [] [⟨[(0, true), (1, true), (2, true), (3, true), (6, true), (7, true), (8, true), (9, true), (13, true), (14, true), (15, true), (16, true), (4, false), (5, true), (10, false), (11, true), (12, true), (17, false), (18, false), (19, false)], none⟩]) (.leaf)) (.leaf))))))))))))) (.seq [] none (.drawP [0] [] [⟨[(0, true), (1, true), (2, true), (3, true), (4, true), (7, true), (8, true), (12, true), (13, true), (14, true), (15, true), (16, true), (17, true), (5, false), (6, true), (9, false), (10, true), (11, true), (18, false), (19, false), (20, false)], none⟩]) (.leaf))))
/- jobshell/jobshellref05.operand -/
def ref05_operand_m (F : Nat) (r_ref05_show : TExpr → Option (List UInt8)) (r_ref05_operand : TExpr → Int → Option (List UInt8)) (a0 : TExpr) (a1 : Int) : Option (List UInt8) :=
 (ref05_Level F a0.fOp).bind fun x1 =>
 cond (decide (x1 < a1))
 ((r_ref05_show (TExpr.mk a0.fOp a0.fN a0.fName a0.fKids)).bind fun x2 =>
 rq (decide (([40] : List UInt8).length + x2.length ≤ 9223372036854775807)) (rq (decide ((([40] : List UInt8) ++ x2).length + ([41] : List UInt8).length ≤ 9223372036854775807)) (some ((([40] : List UInt8) ++ x2) ++ ([41] : List UInt8)))))
 ((r_ref05_show (TExpr.mk a0.fOp a0.fN a0.fName a0.fKids)).bind fun x3 =>
 some x3)
def ref05_operand_s : Shp := ⟨65, [.one (.dat (.ext 0)), .one (.dat (.int .i64))], [], [], ⟨.one (.dat .str), [], []⟩, none⟩
def ref05_operand_p : Plan := .leaf
def ref05_show_G (F : Nat) : Nat → (TExpr → Option (List UInt8)) × (TExpr → Int → Option (List UInt8))
  | 0 => (fun _ => none, fun _ _ => none)
  | n + 1 => (ref05_show_m F (ref05_show_G F n).1 (ref05_show_G F n).2, ref05_operand_m F (ref05_show_G F n).1 (ref05_show_G F n).2)
def ref05_show_n (F n : Nat) : TExpr → Option (List UInt8) := (ref05_show_G F n).1
def ref05_operand_n (F n : Nat) : TExpr → Int → Option (List UInt8) := (ref05_show_G F n).2
def ref05_show (F : Nat) (a0 : TExpr) : Option (List UInt8) := ref05_show_n F F a0
def ref05_operand (F : Nat) (a0 : TExpr) (a1 : Int) : Option (List UInt8) := ref05_operand_n F F a0 a1
def ref05_show_cn (F n : Nat) : Ctr E := ⟨ref05_show_s, fun (x : TExpr) => ref05_show_n F n x⟩
def ref05_show_c (F : Nat) : Ctr E := ⟨ref05_show_s, fun (x : TExpr) => ref05_show F x⟩
def ref05_operand_cn (F n : Nat) : Ctr E := ⟨ref05_operand_s, fun (x : TExpr × Int) => ref05_operand_n F n x.1 x.2⟩
def ref05_operand_c (F : Nat) : Ctr E := ⟨ref05_operand_s, fun (x : TExpr × Int) => ref05_operand F x.1 x.2⟩
theorem ref05_show_st (F n : Nat) (h : (ref05_show_cn F n).Ok Tryd.prog ∧ (ref05_operand_cn F n).Ok Tryd.prog) : (ref05_show_cn F (n + 1)).Ok Tryd.prog := Ctr.ok_of (X := ⟨Tryd.prog, tyT, [ref05_Level_c F, ref05_Decimal_c F, ref05_sign_c F, ref05_operand_cn F n]⟩) (F := F) ⟨E_ok, okC (ref05_Level_ok F) (okC (ref05_Decimal_ok F) (okC (ref05_sign_ok F) (okC h.2 (okN)))), mixed⟩ (pl := ref05_show_p) Tryd.func37 (by kernel_rfl) (fun x => by kernel_rfl)
theorem ref05_operand_st (F n : Nat) (h : (ref05_show_cn F n).Ok Tryd.prog ∧ (ref05_operand_cn F n).Ok Tryd.prog) : (ref05_operand_cn F (n + 1)).Ok Tryd.prog := Ctr.ok_of (X := ⟨Tryd.prog, tyT, [ref05_Level_c F, ref05_show_cn F n]⟩) (F := F) ⟨E_ok, okC (ref05_Level_ok F) (okC h.1 (okN)), mixed⟩ (pl := ref05_operand_p) Tryd.func65 (by kernel_rfl) (fun x => by kernel_rfl)
theorem ref05_show_okn (F : Nat) : ∀ n, (ref05_show_cn F n).Ok Tryd.prog ∧ (ref05_operand_cn F n).Ok Tryd.prog
  | 0 => ⟨(fun x y h => nomatch (show none = some y from h)), (fun x y h => nomatch (show none = some y from h))⟩
  | n + 1 => by
    have h := ref05_show_okn F n
    exact ⟨ref05_show_st F n h,
      ref05_operand_st F n h⟩
theorem ref05_show_ok (F : Nat) : (ref05_show_c F).Ok Tryd.prog := (ref05_show_okn F F).1
theorem ref05_operand_ok (F : Nat) : (ref05_operand_c F).Ok Tryd.prog := (ref05_show_okn F F).2
/- jobshell/jobshellref05.Show -/
def ref05_Show (F : Nat)  (a0 : TExpr) : Option ((List UInt8) × Int) :=
 (ref05_Valid F (TExpr.mk a0.fOp a0.fN a0.fName a0.fKids)).bind fun x1 =>
 cond (x1 != 0)
 (some ([], x1))
 ((ref05_show F (TExpr.mk a0.fOp a0.fN a0.fName a0.fKids)).bind fun x2 =>
 cond (decide (4096 < (x2.length : Int)))
 (some ([], 3))
 (some (x2, 0)))
def ref05_Show_s : Shp := ⟨17, [.one (.dat (.ext 0))], [], [], ⟨.tup [.dat .str, .dat (.int .i64)], [], []⟩, none⟩
def ref05_Show_p : Plan := .leaf
def ref05_Show_c (F : Nat) : Ctr E := ⟨ref05_Show_s, fun (x : TExpr) => ref05_Show F x⟩
theorem ref05_Show_ok (F : Nat) : (ref05_Show_c F).Ok Tryd.prog := Ctr.ok_of (X := ⟨Tryd.prog, tyT, [ref05_Valid_c F, ref05_show_c F]⟩) (F := F) ⟨E_ok, okC (ref05_Valid_ok F) (okC (ref05_show_ok F) (okN)), mixed⟩ (pl := ref05_Show_p) Tryd.func17 (by kernel_rfl) (fun x => by kernel_rfl)
/- jobshell/jobshelllaw05.ArithShows -/
def law05_ArithShows (F : Nat)  (a0 : TExpr) : Option Bool :=
 (ref05_Small F (TExpr.mk a0.fOp a0.fN a0.fName a0.fKids) 60).bind fun x1 =>
 cond (!x1)
 ((law05_awake 60).bind fun x2 =>
 some x2)
 ((arith_Show F (TExpr.mk a0.fOp a0.fN a0.fName a0.fKids)).bind fun x3 =>
 (ref05_Show F (TExpr.mk a0.fOp a0.fN a0.fName a0.fKids)).bind fun x4 =>
 (cond (x3.1 == x4.1)
 (some (x3.2 == x4.2))
 (some false) : Option Bool).bind fun x5 =>
 (cond x5
 ((law05_awake 60).bind fun x7 =>
 some x7)
 (some false) : Option Bool).bind fun x6 =>
 some x6)
def law05_ArithShows_s : Shp := ⟨4, [.one (.dat (.ext 0))], [], [], ⟨.one (.dat .bool), [], []⟩, none⟩
def law05_ArithShows_p : Plan := .seq [] none (.leaf) (.seq [] none (.leaf) (.seq [] none (.leaf) (.seq [] none (.leaf) (.seq [] none (.region [(8, ⟨[(28, .one (.dat .bool))], [none], []⟩, false), (3, ⟨[(31, .one (.dat .bool))], [none], []⟩, false)]) (.leaf)))))
def law05_ArithShows_c (F : Nat) : Ctr E := ⟨law05_ArithShows_s, fun (x : TExpr) => law05_ArithShows F x⟩
theorem law05_ArithShows_ok (F : Nat) : (law05_ArithShows_c F).Ok Tryd.prog := Ctr.ok_of (X := ⟨Tryd.prog, tyT, [ref05_Small_c F, law05_awake_c 60, arith_Show_c F, ref05_Show_c F]⟩) (F := F) ⟨E_ok, okC (ref05_Small_ok F) (okC (law05_awake_ok 60) (okC (arith_Show_ok F) (okC (ref05_Show_ok F) (okN)))), mixed⟩ (pl := law05_ArithShows_p) Tryd.func4 (by kernel_rfl) (fun x => by kernel_rfl)
/- jobshell/jobshelllaw05.ArithValid -/
def law05_ArithValid (F : Nat)  (a0 : TExpr) : Option Bool :=
 (ref05_Small F (TExpr.mk a0.fOp a0.fN a0.fName a0.fKids) 60).bind fun x1 =>
 cond (!x1)
 ((law05_awake 60).bind fun x2 =>
 some x2)
 ((arith_Valid F (TExpr.mk a0.fOp a0.fN a0.fName a0.fKids)).bind fun x3 =>
 (ref05_Valid F (TExpr.mk a0.fOp a0.fN a0.fName a0.fKids)).bind fun x4 =>
 cond (x3 == x4)
 ((law05_awake 60).bind fun x5 =>
 some x5)
 (some false))
def law05_ArithValid_s : Shp := ⟨5, [.one (.dat (.ext 0))], [], [], ⟨.one (.dat .bool), [], []⟩, none⟩
def law05_ArithValid_p : Plan := .seq [] none (.leaf) (.seq [] none (.leaf) (.seq [] none (.drawP [0] [] [⟨[(0, true), (2, true), (1, false), (3, false), (4, false), (5, false), (6, false), (7, false), (8, false)], none⟩]) (.leaf)))
def law05_ArithValid_c (F : Nat) : Ctr E := ⟨law05_ArithValid_s, fun (x : TExpr) => law05_ArithValid F x⟩
theorem law05_ArithValid_ok (F : Nat) : (law05_ArithValid_c F).Ok Tryd.prog := Ctr.ok_of (X := ⟨Tryd.prog, tyT, [ref05_Small_c F, law05_awake_c 60, arith_Valid_c F, ref05_Valid_c F]⟩) (F := F) ⟨E_ok, okC (ref05_Small_ok F) (okC (law05_awake_ok 60) (okC (arith_Valid_ok F) (okC (ref05_Valid_ok F) (okN)))), mixed⟩ (pl := law05_ArithValid_p) Tryd.func5 (by kernel_rfl) (fun x => by kernel_rfl)
/- jobshell/jobshellref05.has -/
def ref05_has (F : Nat)  (a0 : List (List UInt8)) (a1 : List UInt8) : Option Bool :=
 loopF (σ := Int) (R := Bool) (fun rc2 x1 =>
 cond (decide (x1 < (a0.length : Int)))
 (rq ((decide (0 ≤ x1)) && (decide (x1 < (a0.length : Int)))) (cond ((a0.getD (Int.toNat x1) []) == a1)
 (some true)
 (rc2 (w64 (x1 + 1)))))
 (some false)) F 0
def ref05_has_s : Shp := ⟨41, [.one (.dat (.lst .str)), .one (.dat .str)], [], [], ⟨.one (.dat .bool), [], []⟩, none⟩
def ref05_has_p : Plan := .seq [] none (.leaf) (.seq [] none (.seq [] none (.leaf) (.loop [] ⟨[(5, .one (.dat (.int .i64)))], [], []⟩ (.leaf))) (.leaf))
def ref05_has_c (F : Nat) : Ctr E := ⟨ref05_has_s, fun (x : (List (List UInt8)) × (List UInt8)) => ref05_has F x.1 x.2⟩
theorem ref05_has_ok (F : Nat) : (ref05_has_c F).Ok Tryd.prog := Ctr.ok_of (X := ⟨Tryd.prog, tyT, []⟩) (F := F) ⟨E_ok, okN, mixed⟩ (pl := ref05_has_p) Tryd.func41 (by kernel_rfl) (fun x => by kernel_rfl)
/- jobshell/jobshellref05.Names -/
def ref05_Names_m (F : Nat) (r_ref05_Names : TExpr → Option (List (List UInt8))) (a0 : TExpr) : Option (List (List UInt8)) :=
 ((cond (a0.fOp == 2)
 (some true)
 (some (a0.fOp == 26)) : Option Bool).bind fun x2 =>
 cond x2
 (rq ((decide (([] : List (List UInt8)).length + ([a0.fName] : List (List UInt8)).length ≤ 9223372036854775807)) && (decide ((([] : List (List UInt8)).length + ([a0.fName] : List (List UInt8)).length) * 16 ≤ 140737488355328))) (some (([] : List (List UInt8)) ++ ([a0.fName] : List (List UInt8)))))
 (some ([] : List (List UInt8))) : Option (List (List UInt8))).bind fun x1 =>
 loopF (σ := (List (List UInt8)) × Int) (R := List (List UInt8)) (fun rc4 x3 =>
 cond (decide (x3.2 < (a0.fKids.length : Int)))
 (rq ((decide (0 ≤ x3.2)) && (decide (x3.2 < (a0.fKids.length : Int)))) ((r_ref05_Names (a0.fKids.getD (Int.toNat x3.2) dTExpr)).bind fun x5 =>
 loopF (σ := (List (List UInt8)) × Int) (R := List (List UInt8)) (fun rc7 x6 =>
 cond (decide (x6.2 < (x5.length : Int)))
 (rq ((decide (0 ≤ x6.2)) && (decide (x6.2 < (x5.length : Int)))) ((ref05_has F x6.1 (x5.getD (Int.toNat x6.2) [])).bind fun x8 =>
 cond (!x8)
 (rq ((decide (0 ≤ x6.2)) && (decide (x6.2 < (x5.length : Int)))) (rq ((decide (x6.1.length + ([x5.getD (Int.toNat x6.2) []] : List (List UInt8)).length ≤ 9223372036854775807)) && (decide ((x6.1.length + ([x5.getD (Int.toNat x6.2) []] : List (List UInt8)).length) * 16 ≤ 140737488355328))) (rc7 (x6.1 ++ ([x5.getD (Int.toNat x6.2) []] : List (List UInt8)), w64 (x6.2 + 1)))))
 (rc7 (x6.1, w64 (x6.2 + 1)))))
 (rc4 (x6.1, w64 (x3.2 + 1)))) F (x3.1, 0)))
 (some x3.1)) F (x1, 0)
def ref05_Names_s : Shp := ⟨21, [.one (.dat (.ext 0))], [], [], ⟨.one (.dat (.lst .str)), [], []⟩, none⟩
def ref05_Names_p : Plan := .seq [] none (.leaf) (.seq [] none (.leaf) (.seq [.slot 3 9 .str] (some (⟨[(3, .one (.gsl 0 .str))], [none], [some (9, 1)]⟩, false)) (.seq [] none (.region [(8, ⟨[(14, .one (.dat .bool))], [none], [none]⟩, false)]) (.leaf)) (.seq [] none (.seq [] none (.leaf) (.loop [] ⟨[(3, .one (.gsl 0 .str)), (4, .one (.dat (.int .i64)))], [none], [some (9, 1)]⟩ (.seq [] none (.leaf) (.seq [] none (.seq [] none (.leaf) (.seq [] none (.leaf) (.loop [] ⟨[(3, .one (.gsl 0 .str)), (6, .one (.dat (.int .i64)))], [none], [some (9, 1)]⟩ (.leaf)))) (.leaf))))) (.leaf))))
def ref05_Names_n (F : Nat) : Nat → TExpr → Option (List (List UInt8))
  | 0 => fun _ => none
  | n + 1 => ref05_Names_m F (ref05_Names_n F n)
def ref05_Names (F : Nat) (a0 : TExpr) : Option (List (List UInt8)) := ref05_Names_n F F a0
def ref05_Names_cn (F n : Nat) : Ctr E := ⟨ref05_Names_s, fun (x : TExpr) => ref05_Names_n F n x⟩
def ref05_Names_c (F : Nat) : Ctr E := ⟨ref05_Names_s, fun (x : TExpr) => ref05_Names F x⟩
theorem ref05_Names_st (F n : Nat) (h : (ref05_Names_cn F n).Ok Tryd.prog) : (ref05_Names_cn F (n + 1)).Ok Tryd.prog := Ctr.ok_of (X := ⟨Tryd.prog, tyT, [ref05_Names_cn F n, ref05_has_c F]⟩) (F := F) ⟨E_ok, okC h (okC (ref05_has_ok F) (okN)), mixed⟩ (pl := ref05_Names_p) Tryd.func21 (by kernel_rfl) (fun x => by kernel_rfl)
theorem ref05_Names_okn (F : Nat) : ∀ n, (ref05_Names_cn F n).Ok Tryd.prog
  | 0 => (fun x y h => nomatch (show none = some y from h))
  | n + 1 => by
    have h := ref05_Names_okn F n
    exact ref05_Names_st F n h
theorem ref05_Names_ok (F : Nat) : (ref05_Names_c F).Ok Tryd.prog := (ref05_Names_okn F F)
/- jobshell/jobshelllaw05.ArithSame -/
def law05_ArithSame (F : Nat)  (a0 : TExpr) (a1 : TExpr) : Option Bool :=
 ((ref05_Small F (TExpr.mk a0.fOp a0.fN a0.fName a0.fKids) 60).bind fun x2 =>
 cond (!x2)
 (some true)
 ((ref05_Small F (TExpr.mk a1.fOp a1.fN a1.fName a1.fKids) 60).bind fun x3 =>
 some (!x3)) : Option Bool).bind fun x1 =>
 cond x1
 ((law05_awake 60).bind fun x4 =>
 some x4)
 ((arith_Names F (TExpr.mk a0.fOp a0.fN a0.fName a0.fKids)).bind fun x5 =>
 (ref05_Names F (TExpr.mk a0.fOp a0.fN a0.fName a0.fKids)).bind fun x6 =>
 cond ((x5.length : Int) != (x6.length : Int))
 (some false)
 ((arith_Same F (TExpr.mk a0.fOp a0.fN a0.fName a0.fKids) (TExpr.mk a1.fOp a1.fN a1.fName a1.fKids)).bind fun x7 =>
 (ref05_Same F (TExpr.mk a0.fOp a0.fN a0.fName a0.fKids) (TExpr.mk a1.fOp a1.fN a1.fName a1.fKids)).bind fun x8 =>
 cond (!(x7 == x8))
 (some false)
 ((arith_Same F (TExpr.mk a1.fOp a1.fN a1.fName a1.fKids) (TExpr.mk a0.fOp a0.fN a0.fName a0.fKids)).bind fun x9 =>
 (arith_Same F (TExpr.mk a0.fOp a0.fN a0.fName a0.fKids) (TExpr.mk a1.fOp a1.fN a1.fName a1.fKids)).bind fun x10 =>
 cond (!(x9 == x10))
 (some false)
 ((arith_Same F (TExpr.mk a0.fOp a0.fN a0.fName a0.fKids) (TExpr.mk a0.fOp a0.fN a0.fName a0.fKids)).bind fun x11 =>
 cond (!x11)
 (some false)
 (loopF (σ := Int) (R := Bool) (fun rc13 x12 =>
 cond (decide (x12 < (x5.length : Int)))
 (rq ((decide (0 ≤ x12)) && (decide (x12 < (x5.length : Int)))) (rq ((decide (0 ≤ x12)) && (decide (x12 < (x6.length : Int)))) (cond (!((x5.getD (Int.toNat x12) []) == (x6.getD (Int.toNat x12) [])))
 (some false)
 (rc13 (w64 (x12 + 1))))))
 ((law05_awake 60).bind fun x14 =>
 some x14)) F 0)))))
def law05_ArithSame_s : Shp := ⟨6, [.one (.dat (.ext 0)), .one (.dat (.ext 0))], [], [], ⟨.one (.dat .bool), [], []⟩, none⟩
def law05_ArithSame_p : Plan := .seq [] none (.leaf) (.seq [] none (.seq [] none (.region [(8, ⟨[(15, .one (.dat .bool))], [none, none], []⟩, false)]) (.leaf)) (.seq [] none (.drawP [0] [] [⟨[(0, true), (2, true), (1, false), (3, false), (4, false), (5, false)], none⟩]) (.seq [] none (.seq [] none (.drawP [0, 1] [] [⟨[(0, true), (1, true), (2, true), (3, true), (4, true), (5, true), (6, true), (7, true), (9, true), (10, true), (8, false), (11, false), (12, false), (13, false), (14, false), (15, true), (16, true), (18, true), (19, true), (17, false), (20, false), (21, false), (22, false), (23, false), (24, true), (25, false), (26, false), (27, false), (28, false)], none⟩]) (.leaf)) (.seq [] none (.seq [] none (.leaf) (.loop [] ⟨[(7, .one (.dat (.int .i64)))], [none, none], []⟩ (.seq [] none (.leaf) (.seq [] none (.seq [] none (.draw [⟨true, 9, none⟩]) (.leaf)) (.leaf))))) (.leaf)))))
def law05_ArithSame_c (F : Nat) : Ctr E := ⟨law05_ArithSame_s, fun (x : TExpr × TExpr) => law05_ArithSame F x.1 x.2⟩
theorem law05_ArithSame_ok (F : Nat) : (law05_ArithSame_c F).Ok Tryd.prog := Ctr.ok_of (X := ⟨Tryd.prog, tyT, [ref05_Small_c F, law05_awake_c 60, arith_Names_c F, ref05_Names_c F, arith_Same_c F, ref05_Same_c F]⟩) (F := F) ⟨E_ok, okC (ref05_Small_ok F) (okC (law05_awake_ok 60) (okC (arith_Names_ok F) (okC (ref05_Names_ok F) (okC (arith_Same_ok F) (okC (ref05_Same_ok F) (okN)))))), mixed⟩ (pl := law05_ArithSame_p) Tryd.func6 (by kernel_rfl) (fun x => by kernel_rfl)
/- jobshell/jobshelllaw05.ArithBack -/
def law05_ArithBack (F : Nat)  (a0 : TExpr) : Option Bool :=
 (ref05_Small F (TExpr.mk a0.fOp a0.fN a0.fName a0.fKids) 60).bind fun x1 =>
 cond (!x1)
 ((law05_awake 60).bind fun x2 =>
 some x2)
 ((arith_Show F (TExpr.mk a0.fOp a0.fN a0.fName a0.fKids)).bind fun x3 =>
 cond (x3.2 != 0)
 ((cond (x3.1 == [])
 ((law05_awake 60).bind fun x5 =>
 some x5)
 (some false) : Option Bool).bind fun x4 =>
 some x4)
 ((arith_Parse F x3.1).bind fun x6 =>
 (cond (x6.2.2 == 0)
 (some (x6.2.1 == 0))
 (some false) : Option Bool).bind fun x7 =>
 (cond x7
 ((ref05_Same F (TExpr.mk x6.1.fOp x6.1.fN x6.1.fName x6.1.fKids) (TExpr.mk a0.fOp a0.fN a0.fName a0.fKids)).bind fun x9 =>
 some x9)
 (some false) : Option Bool).bind fun x8 =>
 (cond x8
 ((law05_awake 60).bind fun x11 =>
 some x11)
 (some false) : Option Bool).bind fun x10 =>
 some x10))
def law05_ArithBack_s : Shp := ⟨7, [.one (.dat (.ext 0))], [], [], ⟨.one (.dat .bool), [], []⟩, none⟩
def law05_ArithBack_p : Plan := .seq [] none (.leaf) (.seq [] none (.leaf) (.seq [] none (.leaf) (.seq [] none (.seq [] none (.leaf) (.cond (.seq [] none (.region [(5, ⟨[(23, .one (.dat .bool))], [none], []⟩, false)]) (.leaf)) (.leaf))) (.seq [] none (.leaf) (.seq [] none (.region [(6, ⟨[(35, .one (.dat .bool))], [none, none], []⟩, false), (5, ⟨[(40, .one (.dat .bool))], [none, none], []⟩, false), (3, ⟨[(43, .one (.dat .bool))], [none, none], []⟩, false)]) (.leaf))))))
def law05_ArithBack_c (F : Nat) : Ctr E := ⟨law05_ArithBack_s, fun (x : TExpr) => law05_ArithBack F x⟩
theorem law05_ArithBack_ok (F : Nat) : (law05_ArithBack_c F).Ok Tryd.prog := Ctr.ok_of (X := ⟨Tryd.prog, tyT, [ref05_Small_c F, law05_awake_c 60, arith_Show_c F, arith_Parse_c F, ref05_Same_c F]⟩) (F := F) ⟨E_ok, okC (ref05_Small_ok F) (okC (law05_awake_ok 60) (okC (arith_Show_ok F) (okC (arith_Parse_ok F) (okC (ref05_Same_ok F) (okN))))), mixed⟩ (pl := law05_ArithBack_p) Tryd.func7 (by kernel_rfl) (fun x => by kernel_rfl)
/- jobshell/jobshelllaw05.ArithAgain -/
def law05_ArithAgain (F : Nat)  (a0 : List UInt8) : Option Bool :=
 cond (decide (120 < (a0.length : Int)))
 ((law05_awake 60).bind fun x1 =>
 some x1)
 ((arith_Parse F a0).bind fun x2 =>
 cond (x2.2.2 != 0)
 (((ref05_Same F (TExpr.mk x2.1.fOp x2.1.fN x2.1.fName x2.1.fKids) (TExpr.mk 0 0 [] [])).bind fun x4 =>
 cond x4
 ((law05_awake 60).bind fun x5 =>
 some x5)
 (some false) : Option Bool).bind fun x3 =>
 some x3)
 ((arith_Show F (TExpr.mk x2.1.fOp x2.1.fN x2.1.fName x2.1.fKids)).bind fun x6 =>
 (arith_Parse F x6.1).bind fun x7 =>
 (arith_Show F (TExpr.mk x7.1.fOp x7.1.fN x7.1.fName x7.1.fKids)).bind fun x8 =>
 ((arith_Valid F (TExpr.mk x2.1.fOp x2.1.fN x2.1.fName x2.1.fKids)).bind fun x10 =>
 cond (x10 == 0)
 (some (x6.2 == 0))
 (some false) : Option Bool).bind fun x9 =>
 (cond x9
 (some (x7.2.2 == 0))
 (some false) : Option Bool).bind fun x11 =>
 (cond x11
 (some (x8.2 == 0))
 (some false) : Option Bool).bind fun x12 =>
 (cond x12
 ((ref05_Same F (TExpr.mk x2.1.fOp x2.1.fN x2.1.fName x2.1.fKids) (TExpr.mk x7.1.fOp x7.1.fN x7.1.fName x7.1.fKids)).bind fun x14 =>
 some x14)
 (some false) : Option Bool).bind fun x13 =>
 (cond x13
 (some (x6.1 == x8.1))
 (some false) : Option Bool).bind fun x15 =>
 (cond x15
 ((law05_awake 60).bind fun x17 =>
 some x17)
 (some false) : Option Bool).bind fun x16 =>
 some x16))
def law05_ArithAgain_s : Shp := ⟨8, [.one (.dat .str)], [], [], ⟨.one (.dat .bool), [], []⟩, none⟩
def law05_ArithAgain_p : Plan := .seq [] none (.leaf) (.seq [] none (.leaf) (.seq [] none (.leaf) (.seq [] none (.seq [] none (.leaf) (.cond (.seq [] none (.region [(6, ⟨[(30, .one (.dat .bool))], [none], []⟩, false)]) (.leaf)) (.leaf))) (.seq [] none (.leaf) (.seq [] none (.leaf) (.seq [] none (.leaf) (.seq [] none (.region [(7, ⟨[(53, .one (.dat .bool))], [none, none], []⟩, false), (4, ⟨[(57, .one (.dat .bool))], [none, none], []⟩, false), (4, ⟨[(61, .one (.dat .bool))], [none, none], []⟩, false), (5, ⟨[(66, .one (.dat .bool))], [none, none], []⟩, false), (5, ⟨[(71, .one (.dat .bool))], [none, none], []⟩, false), (3, ⟨[(74, .one (.dat .bool))], [none, none], []⟩, false)]) (.leaf))))))))
def law05_ArithAgain_c (F : Nat) : Ctr E := ⟨law05_ArithAgain_s, fun (x : List UInt8) => law05_ArithAgain F x⟩
theorem law05_ArithAgain_ok (F : Nat) : (law05_ArithAgain_c F).Ok Tryd.prog := Ctr.ok_of (X := ⟨Tryd.prog, tyT, [law05_awake_c 60, arith_Parse_c F, ref05_Same_c F, arith_Show_c F, arith_Valid_c F]⟩) (F := F) ⟨E_ok, okC (law05_awake_ok 60) (okC (arith_Parse_ok F) (okC (ref05_Same_ok F) (okC (arith_Show_ok F) (okC (arith_Valid_ok F) (okN))))), mixed⟩ (pl := law05_ArithAgain_p) Tryd.func8 (by kernel_rfl) (fun x => by kernel_rfl)
/- jobshell/jobshelllaw05.blank -/
def law05_blank (F : Nat)  (a0 : List UInt8) : Option Bool :=
 loopF (σ := Int) (R := Bool) (fun rc2 x1 =>
 cond (decide (x1 < (a0.length : Int)))
 ((rq ((decide (0 ≤ x1)) && (decide (x1 < (a0.length : Int)))) (cond (((a0.getD (Int.toNat x1) 0).toNat : Int) != 9)
 (rq ((decide (0 ≤ x1)) && (decide (x1 < (a0.length : Int)))) (some (((a0.getD (Int.toNat x1) 0).toNat : Int) != 10)))
 (some false)) : Option Bool).bind fun x3 =>
 (cond x3
 (rq ((decide (0 ≤ x1)) && (decide (x1 < (a0.length : Int)))) (some (((a0.getD (Int.toNat x1) 0).toNat : Int) != 32)))
 (some false) : Option Bool).bind fun x4 =>
 cond x4
 (some false)
 (rc2 (w64 (x1 + 1))))
 (some true)) F 0
def law05_blank_s : Shp := ⟨23, [.one (.dat .str)], [], [], ⟨.one (.dat .bool), [], []⟩, none⟩
def law05_blank_p : Plan := .seq [] none (.leaf) (.seq [] none (.seq [] none (.leaf) (.loop [] ⟨[(3, .one (.dat (.int .i64)))], [], []⟩ (.seq [] none (.leaf) (.seq [] none (.seq [] none (.region [(10, ⟨[(19, .one (.dat .bool))], [], []⟩, false), (6, ⟨[(25, .one (.dat .bool))], [], []⟩, false)]) (.leaf)) (.leaf))))) (.leaf))
def law05_blank_c (F : Nat) : Ctr E := ⟨law05_blank_s, fun (x : List UInt8) => law05_blank F x⟩
theorem law05_blank_ok (F : Nat) : (law05_blank_c F).Ok Tryd.prog := Ctr.ok_of (X := ⟨Tryd.prog, tyT, []⟩) (F := F) ⟨E_ok, okN, mixed⟩ (pl := law05_blank_p) Tryd.func23 (by kernel_rfl) (fun x => by kernel_rfl)
/- jobshell/jobshelllaw05.ArithParens -/
def law05_ArithParens (F : Nat)  (a0 : List UInt8) : Option Bool :=
 (cond (decide (120 < (a0.length : Int)))
 (some true)
 ((law05_blank F a0).bind fun x2 =>
 some x2) : Option Bool).bind fun x1 =>
 cond x1
 ((law05_awake 60).bind fun x3 =>
 some x3)
 ((arith_Parse F a0).bind fun x4 =>
 rq (decide (([40] : List UInt8).length + a0.length ≤ 9223372036854775807)) (rq (decide ((([40] : List UInt8) ++ a0).length + ([41] : List UInt8).length ≤ 9223372036854775807)) ((arith_Parse F ((([40] : List UInt8) ++ a0) ++ ([41] : List UInt8))).bind fun x5 =>
 (cond (x4.2.2 == 0)
 (some true)
 (some (x4.2.2 == 5)) : Option Bool).bind fun x6 =>
 cond x6
 ((cond (x5.2.2 == x4.2.2)
 (some (x5.2.1 == 0))
 (some false) : Option Bool).bind fun x7 =>
 (cond x7
 ((ref05_Same F (TExpr.mk x4.1.fOp x4.1.fN x4.1.fName x4.1.fKids) (TExpr.mk x5.1.fOp x5.1.fN x5.1.fName x5.1.fKids)).bind fun x9 =>
 some x9)
 (some false) : Option Bool).bind fun x8 =>
 (cond x8
 ((law05_awake 60).bind fun x11 =>
 some x11)
 (some false) : Option Bool).bind fun x10 =>
 some x10)
 ((cond (decide (x4.2.1 < 0))
 (some true)
 (some (decide ((a0.length : Int) < x4.2.1))) : Option Bool).bind fun x12 =>
 cond x12
 (some false)
 (cond (x4.2.1 == (a0.length : Int))
 ((cond (x5.2.2 == 6)
 (some (decide (x4.2.1 < x5.2.1)))
 (some false) : Option Bool).bind fun x13 =>
 (cond x13
 ((law05_awake 60).bind fun x15 =>
 some x15)
 (some false) : Option Bool).bind fun x14 =>
 some x14)
 ((rq ((decide (0 ≤ x4.2.1)) && (decide (x4.2.1 < (a0.length : Int)))) (cond (((a0.getD (Int.toNat x4.2.1) 0).toNat : Int) == 41)
 (some true)
 (cond (x5.2.1 == (w64 (x4.2.1 + 1)))
 (some (x5.2.2 == x4.2.2))
 (some false))) : Option Bool).bind fun x16 =>
 (cond x16
 ((law05_awake 60).bind fun x18 =>
 some x18)
 (some false) : Option Bool).bind fun x17 =>
 some x17))))))
def law05_ArithParens_s : Shp := ⟨9, [.one (.dat .str)], [], [], ⟨.one (.dat .bool), [], []⟩, none⟩
def law05_ArithParens_p : Plan := .seq [] none (.leaf) (.seq [] none (.seq [] none (.region [(7, ⟨[(15, .one (.dat .bool))], [], []⟩, false)]) (.leaf)) (.seq [] none (.leaf) (.seq [] none (.leaf) (.seq [] none (.seq [] none (.region [(6, ⟨[(36, .one (.dat .bool))], [none, none], []⟩, false)]) (.cond (.seq [] none (.region [(7, ⟨[(43, .one (.dat .bool))], [none, none], []⟩, false), (5, ⟨[(48, .one (.dat .bool))], [none, none], []⟩, false), (3, ⟨[(51, .one (.dat .bool))], [none, none], []⟩, false)]) (.leaf)) (.leaf))) (.seq [] none (.seq [] none (.region [(8, ⟨[(59, .one (.dat .bool))], [none, none], []⟩, false)]) (.leaf)) (.seq [] none (.seq [] none (.leaf) (.cond (.seq [] none (.region [(7, ⟨[(70, .one (.dat .bool))], [none, none], []⟩, false), (3, ⟨[(73, .one (.dat .bool))], [none, none], []⟩, false)]) (.leaf)) (.leaf))) (.seq [] none (.region [(15, ⟨[(88, .one (.dat .bool))], [none, none], []⟩, false), (3, ⟨[(91, .one (.dat .bool))], [none, none], []⟩, false)]) (.leaf))))))))
def law05_ArithParens_c (F : Nat) : Ctr E := ⟨law05_ArithParens_s, fun (x : List UInt8) => law05_ArithParens F x⟩
theorem law05_ArithParens_ok (F : Nat) : (law05_ArithParens_c F).Ok Tryd.prog := Ctr.ok_of (X := ⟨Tryd.prog, tyT, [law05_blank_c F, law05_awake_c 60, arith_Parse_c F, ref05_Same_c F]⟩) (F := F) ⟨E_ok, okC (law05_blank_ok F) (okC (law05_awake_ok 60) (okC (arith_Parse_ok F) (okC (ref05_Same_ok F) (okN)))), mixed⟩ (pl := law05_ArithParens_p) Tryd.func9 (by kernel_rfl) (fun x => by kernel_rfl)
end Go.Proofs.YtnbdahlceddihaaDoor
