import Derived.Test.YteagcbkkonabbaaGreatDoorTy
import Derived.Test.YteagcbkkonabbaaGreatDoorHs
import Derived.Test.YteagcbkkonabbaaGreatDoorCl
namespace Go.Proofs.YteagcbkkonabbaaGreatDoor
open Go.RT
set_option linter.all false
set_option maxRecDepth 100000
noncomputable section
abbrev bt0 : BT := .cells 64 [.pk (.ext 0), .pk (.ext 2), .pk tAinti648, .gsl 0 (.int .i64)]
abbrev bt1 : BT := .cells 130 [.optr 0 0, .gsl 0 (.int .u8)]
def slicesClone_c (F : Nat) : Ctr E := ⟨slices_Clone_s, fun (x : List (List UInt8)) => cloneF F x⟩
theorem slicesClone_ok (F : Nat) : (slicesClone_c F).Ok Tryz.prog := fun x y h => slices_Clone_ok F x y ((clone_eq F x).trans h)
def indexByteString := ibF
def indexByteString_c (F : Nat) : Ctr E := ibC E 119 F
theorem indexByteString_ok (F : Nat) : (indexByteString_c F).Ok Tryz.prog := ib_ok (fun args w => run_callFunc_extern Tryz.func119 (by kernel_rfl) (by kernel_rfl) (by kernel_rfl) (e := Extern.BytealgIndexByte.indexByte) (by kernel_rfl) args w) F
def strconvAtoi_c (F : Nat) : Ctr E := atoiC E 32 F
theorem strconvAtoi_ok (F : Nat) : (strconvAtoi_c F).Ok Tryz.prog := atoi_ok atoiAt F
def stringsJoin_c (F : Nat) : Ctr E := joinC E 59 F
theorem stringsJoin_ok (F : Nat) : (stringsJoin_c F).Ok Tryz.prog := join_ok joinAt F
def absurd56_c (F : Nat) : Ctr E := ⟨⟨56, [.one (.dat (.lst .str))], [], [], ⟨.one (.any), [], [], []⟩, none, []⟩, fun _ => none⟩
theorem absurd56_ok (F : Nat) : (absurd56_c F).Ok Tryz.prog := fun x y h => nomatch (show none = some y from h)
def absurd181_c (F : Nat) : Ctr E := ⟨⟨181, [.one (.ptr 0 0), .one (.dat .str), .one (.dat .str)], [.cells 153 [.pk (.ext 5)]], [], ⟨.one (.any), [none], [], []⟩, none, []⟩, fun _ => none⟩
theorem absurd181_ok (F : Nat) : (absurd181_c F).Ok Tryz.prog := fun x y h => nomatch (show none = some y from h)
def absurd224_c (F : Nat) : Ctr E := ⟨⟨224, [.one (.dat .str)], [], [], ⟨.one (.any), [], [], []⟩, none, []⟩, fun _ => none⟩
theorem absurd224_ok (F : Nat) : (absurd224_c F).Ok Tryz.prog := fun x y h => nomatch (show none = some y from h)
def absurd45_c (F : Nat) : Ctr E := ⟨⟨45, [.one (.dat (.int .u64))], [], [], ⟨.one (.any), [], [], []⟩, none, []⟩, fun _ => none⟩
theorem absurd45_ok (F : Nat) : (absurd45_c F).Ok Tryz.prog := fun x y h => nomatch (show none = some y from h)
def absurd47_c (F : Nat) : Ctr E := ⟨⟨47, [.one (.gsl 0 (.int .u8)), .one (.dat (.int .u64)), .one (.dat (.int .i64)), .one (.lb false), .one (.lb true)], [], [(5, 1)], ⟨.one (.any), [], [none], []⟩, none, []⟩, fun _ => none⟩
theorem absurd47_ok (F : Nat) : (absurd47_c F).Ok Tryz.prog := fun x y h => nomatch (show none = some y from h)
def slicesCloneS_c (F : Nat) : Ctr E := cloneSC E 22 9 (cloneF F)
theorem slicesCloneS_ok (F : Nat) : (slicesCloneS_c F).Ok Tryz.prog := cloneS_ok cloneAt rfl (cloneF_out F)
def stringsCut_c (F : Nat) : Ctr E := cutC E 100 F
theorem stringsCut_ok (F : Nat) : (stringsCut_c F).Ok Tryz.prog := cut_ok cutAt F
def noEscape_c (F : Nat) : Ctr E := neC E 162 (bt1) [(5, 1)]
theorem noEscape_ok (F : Nat) : (noEscape_c F).Ok Tryz.prog := ne_ok (fun v w => by rw [run_callFunc_extern Tryz.func162 (by kernel_rfl) (by kernel_rfl) (by kernel_rfl) (e := Extern.AbiNoEscape.same) (by kernel_rfl)]; rfl)
def stringsSplit_c (F : Nat) : Ctr E := splitC E 136 9 F
theorem stringsSplit_ok (F : Nat) : (stringsSplit_c F).Ok Tryz.prog := split_ok splitAt F
def strconvItoa_c (F : Nat) : Ctr E := itoaC E 17 F
theorem strconvItoa_ok (F : Nat) : (strconvItoa_c F).Ok Tryz.prog := itoa_ok (entersOf Tryz.func17 (by kernel_rfl) (by kernel_rfl)) (fun w G hP => tabIs_of_pins (g := 1) hP (by kernel_rfl) rfl) (fun n h0 h1 w ht => Go.Proofs.Any.strconv_Itoa Tryz.itoaL n h0 h1 w ht) F
def slicesSort_c (F : Nat) : Ctr E := sortC E 138 9 F
theorem slicesSort_ok (F : Nat) : (slicesSort_c F).Ok Tryz.prog := sort_ok sortAt F
def slicesCompact_c (F : Nat) : Ctr E := compC' E 139 9 F
theorem slicesCompact_ok (F : Nat) : (slicesCompact_c F).Ok Tryz.prog := comp_ok' compAt F
def absurd204_c (F : Nat) : Ctr E := ⟨⟨204, [.one (.dat .str)], [], [], ⟨.one (.any), [], [], []⟩, none, []⟩, fun _ => none⟩
theorem absurd204_ok (F : Nat) : (absurd204_c F).Ok Tryz.prog := fun x y h => nomatch (show none = some y from h)
def slicesReverse_c (F : Nat) : Ctr E := revC E 144 9 F
theorem slicesReverse_ok (F : Nat) : (slicesReverse_c F).Ok Tryz.prog := revS_ok revSAt F
def stringsLastIndexByte_c (F : Nat) : Ctr E := libC E 77 F
theorem stringsLastIndexByte_ok (F : Nat) : (stringsLastIndexByte_c F).Ok Tryz.prog := lib_ok libAt F
def slices_Index (F : Nat)  (a0 : List (List UInt8)) (a1 : List UInt8) : Option Int :=
 loopF (σ := Int) (R := Int) (fun rc2 x1 =>
 cond (decide (x1 < (a0.length : Int)))
 (rq ((decide (0 ≤ x1)) && (decide (x1 < (a0.length : Int)))) (cond (a1 == (a0.getD (Int.toNat x1) []))
 (some x1)
 (rc2 (w64 (x1 + 1)))))
 (some (-1))) F 0
def slices_Index_s : Shp := ⟨29, [.one (.dat (.lst .str)), .one (.dat .str)], [], [], ⟨.one (.dat (.int .i64)), [], [], []⟩, none, []⟩
def slices_Index_p : Plan := .seq [] none (.leaf) (.seq [] none (.seq [] none (.leaf) (.loop [] ⟨[(8, .one (.dat (.int .i64)))], [], [], []⟩ (.leaf))) (.leaf))
def slices_Index_c (F : Nat) : Ctr E := ⟨slices_Index_s, fun (x : (List (List UInt8)) × (List UInt8)) => slices_Index F x.1 x.2⟩
theorem slices_Index_ok (F : Nat) : (slices_Index_c F).Ok Tryz.prog := Ctr.ok_of (X := ⟨Tryz.prog, tyT, [], [], none⟩) (F := F) ⟨E_ok, okN, mixed, goN, rvN⟩ (pl := slices_Index_p) Tryz.func29 (by kernel_rfl) (fun x => by kernel_rfl)
def slices_Contains (F : Nat)  (a0 : List (List UInt8)) (a1 : List UInt8) : Option Bool :=
 (slices_Index F a0 a1).bind fun x1 =>
 some (decide (0 ≤ x1))
def slices_Contains_s : Shp := ⟨23, [.one (.dat (.lst .str)), .one (.dat .str)], [], [], ⟨.one (.dat .bool), [], [], []⟩, none, []⟩
def slices_Contains_p : Plan := .leaf
def slices_Contains_c (F : Nat) : Ctr E := ⟨slices_Contains_s, fun (x : (List (List UInt8)) × (List UInt8)) => slices_Contains F x.1 x.2⟩
theorem slices_Contains_ok (F : Nat) : (slices_Contains_c F).Ok Tryz.prog := Ctr.ok_of (X := ⟨Tryz.prog, tyT, [slices_Index_c F], [], none⟩) (F := F) ⟨E_ok, okC (slices_Index_ok F) (okN), mixed, goN, rvN⟩ (pl := slices_Contains_p) Tryz.func23 (by kernel_rfl) (fun x => by kernel_rfl)
def util_Known (F : Nat)  (a0 : List UInt8) : Option Bool :=
 rq (Nat.beq tab0.length 28) ((slices_Contains F ((tab0.take 28).drop 0) a0).bind fun x1 =>
 some x1)
def util_Known_s : Shp := ⟨13, [.one (.dat .str)], [], [], ⟨.one (.dat .bool), [], [], []⟩, none, []⟩
def util_Known_p : Plan := .leaf
def util_Known_c (F : Nat) : Ctr E := ⟨util_Known_s, fun (x : List UInt8) => util_Known F x⟩
theorem util_Known_ok (F : Nat) : (util_Known_c F).Ok Tryz.prog := Ctr.ok_of (X := ⟨Tryz.prog, tyT, [slices_Contains_c F], [], none⟩) (F := F) ⟨E_ok, okC (slices_Contains_ok F) (okN), mixed, goN, rvN⟩ (pl := util_Known_p) Tryz.func13 (by kernel_rfl) (fun x => by kernel_rfl)
def util_Start (F : Nat)  (a0 : List (List UInt8)) (a1 : List (List UInt8)) : Option (TUtil × Bool) :=
 (cond ((a0.length : Int) == 0)
 (some true)
 (rq (decide (0 < (a0.length : Int))) ((util_Known F (a0.getD 0 [])).bind fun x2 =>
 some (!x2))) : Option Bool).bind fun x1 =>
 cond x1
 (some ((TUtil.mk [] [] [] 0 0 [] [] []), false))
 (rq (decide (0 < (a0.length : Int))) ((cloneF F a0).bind fun x3 =>
 (cloneF F a1).bind fun x4 =>
 some ((TUtil.mk (a0.getD 0 []) x3 x4 0 0 [] [] []), true)))
def util_Start_s : Shp := ⟨11, [.one (.dat (.lst .str)), .one (.dat (.lst .str))], [], [], ⟨.tup [.dat (.ext 0), .dat .bool], [], [], []⟩, none, []⟩
def util_Start_p : Plan := .seq [] none (.leaf) (.seq [] none (.seq [] none (.region [(10, ⟨[(15, .one (.dat .bool))], [none], [], []⟩, false)]) (.leaf)) (.seq [] none (.drawP [] [] [⟨[(0, true), (1, true), (2, true), (3, true), (5, true), (4, false), (6, false), (7, false), (8, false), (9, false)], none⟩]) (.leaf)))
def util_Start_c (F : Nat) : Ctr E := ⟨util_Start_s, fun (x : (List (List UInt8)) × (List (List UInt8))) => util_Start F x.1 x.2⟩
theorem util_Start_ok (F : Nat) : (util_Start_c F).Ok Tryz.prog := Ctr.ok_of (X := ⟨Tryz.prog, tyT, [util_Known_c F, slicesClone_c F], [], none⟩) (F := F) ⟨E_ok, okC (util_Known_ok F) (okC (slicesClone_ok F) (okN)), mixed, goN, rvN⟩ (pl := util_Start_p) Tryz.func11 (by kernel_rfl) (fun x => by kernel_rfl)
def util_letters (F : Nat)  (a0 : List UInt8) : Option ((List UInt8) × Bool) :=
 (cond (a0 == ([104, 101, 97, 100] : List UInt8))
 (some (a0 == ([104, 101, 97, 100] : List UInt8)))
 (some (a0 == ([116, 97, 105, 108] : List UInt8))) : Option Bool).bind fun x1 =>
 cond x1
 (some (([110] : List UInt8), true))
 (cond (a0 == ([119, 99] : List UInt8))
 (some (([108, 119, 99] : List UInt8), true))
 (cond (a0 == ([115, 111, 114, 116] : List UInt8))
 (some (([114, 110, 117] : List UInt8), true))
 (cond (a0 == ([117, 110, 105, 113] : List UInt8))
 (some (([99] : List UInt8), true))
 (cond (a0 == ([103, 114, 101, 112] : List UInt8))
 (some (([118, 99, 113] : List UInt8), true))
 (cond (a0 == ([116, 101, 101] : List UInt8))
 (some (([97] : List UInt8), true))
 (cond (a0 == ([114, 109] : List UInt8))
 (some (([102] : List UInt8), true))
 ((cond (a0 == ([99, 97, 116] : List UInt8))
 (some (a0 == ([99, 97, 116] : List UInt8)))
 (cond (a0 == ([116, 111, 117, 99, 104] : List UInt8))
 (some (a0 == ([116, 111, 117, 99, 104] : List UInt8)))
 (cond (a0 == ([109, 107, 100, 105, 114] : List UInt8))
 (some (a0 == ([109, 107, 100, 105, 114] : List UInt8)))
 (cond (a0 == ([114, 109, 100, 105, 114] : List UInt8))
 (some (a0 == ([114, 109, 100, 105, 114] : List UInt8)))
 (cond (a0 == ([109, 118] : List UInt8))
 (some (a0 == ([109, 118] : List UInt8)))
 (cond (a0 == ([99, 112] : List UInt8))
 (some (a0 == ([99, 112] : List UInt8)))
 (cond (a0 == ([108, 115] : List UInt8))
 (some (a0 == ([108, 115] : List UInt8)))
 (cond (a0 == ([114, 101, 118] : List UInt8))
 (some (a0 == ([114, 101, 118] : List UInt8)))
 (some (a0 == ([112, 119, 100] : List UInt8)))))))))) : Option Bool).bind fun x2 =>
 cond x2
 (some ([], true))
 (some ([], false)))))))))
def util_letters_s : Shp := ⟨48, [.one (.dat .str)], [], [], ⟨.tup [.dat .str, .dat .bool], [], [], []⟩, none, []⟩
def util_letters_p : Plan := .seq [] none (.leaf) (.seq [] none (.seq [] none (.leaf) (.seq [] (some (⟨[(5, .one (.dat .bool))], [], [], []⟩, false)) (.leaf) (.cond (.leaf) (.seq [] none (.leaf) (.cond (.leaf) (.seq [] none (.leaf) (.cond (.leaf) (.seq [] none (.leaf) (.cond (.leaf) (.seq [] none (.leaf) (.cond (.leaf) (.seq [] none (.leaf) (.cond (.leaf) (.seq [] none (.leaf) (.cond (.leaf) (.seq [] (some (⟨[(20, .one (.dat .bool))], [], [], []⟩, false)) (.leaf) (.leaf))))))))))))))))) (.leaf))
def util_letters_c (F : Nat) : Ctr E := ⟨util_letters_s, fun (x : List UInt8) => util_letters F x⟩
theorem util_letters_ok (F : Nat) : (util_letters_c F).Ok Tryz.prog := Ctr.ok_of (X := ⟨Tryz.prog, tyT, [], [], none⟩) (F := F) ⟨E_ok, okN, mixed, goN, rvN⟩ (pl := util_letters_p) Tryz.func48 (by kernel_rfl) (fun x => by kernel_rfl)
def stringslite_IndexByte (F : Nat)  (a0 : List UInt8) (a1 : Int) : Option Int :=
 (indexByteString F a0 a1).bind fun x1 =>
 some x1
def stringslite_IndexByte_s : Shp := ⟨83, [.one (.dat .str), .one (.dat (.int .u8))], [], [], ⟨.one (.dat (.int .i64)), [], [], []⟩, none, []⟩
def stringslite_IndexByte_p : Plan := .leaf
def stringslite_IndexByte_c (F : Nat) : Ctr E := ⟨stringslite_IndexByte_s, fun (x : (List UInt8) × Int) => stringslite_IndexByte F x.1 x.2⟩
theorem stringslite_IndexByte_ok (F : Nat) : (stringslite_IndexByte_c F).Ok Tryz.prog := Ctr.ok_of (X := ⟨Tryz.prog, tyT, [indexByteString_c F], [], none⟩) (F := F) ⟨E_ok, okC (indexByteString_ok F) (okN), mixed, goN, rvN⟩ (pl := stringslite_IndexByte_p) Tryz.func83 (by kernel_rfl) (fun x => by kernel_rfl)
def strings_IndexByte (F : Nat)  (a0 : List UInt8) (a1 : Int) : Option Int :=
 (stringslite_IndexByte F a0 a1).bind fun x1 =>
 some x1
def strings_IndexByte_s : Shp := ⟨49, [.one (.dat .str), .one (.dat (.int .u8))], [], [], ⟨.one (.dat (.int .i64)), [], [], []⟩, none, []⟩
def strings_IndexByte_p : Plan := .leaf
def strings_IndexByte_c (F : Nat) : Ctr E := ⟨strings_IndexByte_s, fun (x : (List UInt8) × Int) => strings_IndexByte F x.1 x.2⟩
theorem strings_IndexByte_ok (F : Nat) : (strings_IndexByte_c F).Ok Tryz.prog := Ctr.ok_of (X := ⟨Tryz.prog, tyT, [stringslite_IndexByte_c F], [], none⟩) (F := F) ⟨E_ok, okC (stringslite_IndexByte_ok F) (okN), mixed, goN, rvN⟩ (pl := strings_IndexByte_p) Tryz.func49 (by kernel_rfl) (fun x => by kernel_rfl)
def chars_digit (F : Nat)  (a0 : Int) : Option Bool :=
 (cond (decide (48 ≤ a0))
 (some (decide (a0 ≤ 57)))
 (some false) : Option Bool).bind fun x1 =>
 some x1
def chars_digit_s : Shp := ⟨84, [.one (.dat (.int .i32))], [], [], ⟨.one (.dat .bool), [], [], []⟩, none, []⟩
def chars_digit_p : Plan := .seq [] none (.leaf) (.seq [] none (.region [(6, ⟨[(8, .one (.dat .bool))], [], [], []⟩, false)]) (.leaf))
def chars_digit_c (F : Nat) : Ctr E := ⟨chars_digit_s, fun (x : Int) => chars_digit F x⟩
theorem chars_digit_ok (F : Nat) : (chars_digit_c F).Ok Tryz.prog := Ctr.ok_of (X := ⟨Tryz.prog, tyT, [], [], none⟩) (F := F) ⟨E_ok, okN, mixed, goN, rvN⟩ (pl := chars_digit_p) Tryz.func84 (by kernel_rfl) (fun x => by kernel_rfl)
def chars_Digits (F : Nat)  (a0 : List UInt8) : Option (Int × Bool) :=
 cond (a0 == ([48] : List UInt8))
 (some (0, true))
 ((cond (a0 == [])
 (some true)
 (rq (decide (0 < (a0.length : Int))) (some (((a0.getD 0 0).toNat : Int) == 48))) : Option Bool).bind fun x1 =>
 cond x1
 (some (0, false))
 (loopF (σ := Int × (List UInt8) × Int) (R := Int × Bool) (fun rc3 x2 =>
 cond (Nat.blt (Int.toNat x2.2.2) x2.2.1.length)
 ((chars_digit F ((dec x2.2.1 (Int.toNat x2.2.2)).1 : Int)).bind fun x4 =>
 cond (!x4)
 (some (0, false))
 (cond (decide (2147483647 < w64 ((w64 (10 * x2.1)) + (w64 (IntKind.wrap .i32 (((dec x2.2.1 (Int.toNat x2.2.2)).1 : Int) - 48))))))
 (some (0, false))
 (rc3 (w64 ((w64 (10 * x2.1)) + (w64 (IntKind.wrap .i32 (((dec x2.2.1 (Int.toNat x2.2.2)).1 : Int) - 48)))), x2.2.1, ((((Int.toNat x2.2.2) + (dec x2.2.1 (Int.toNat x2.2.2)).2) : Nat) : Int)))))
 (some (x2.1, true))) F (0, a0, ((0 : Nat) : Int))))
def chars_Digits_s : Shp := ⟨50, [.one (.dat .str)], [], [], ⟨.tup [.dat (.int .i64), .dat .bool], [], [], []⟩, none, []⟩
def chars_Digits_p : Plan := .seq [] none (.leaf) (.seq [] none (.leaf) (.seq [] none (.seq [] none (.region [(7, ⟨[(15, .one (.dat .bool))], [], [], []⟩, false)]) (.leaf)) (.seq [] none (.leaf) (.seq [] none (.seq [] none (.leaf) (.loop [] ⟨[(4, .one (.dat (.int .i64)))], [some (.iter)], [], []⟩ (.leaf))) (.leaf)))))
def chars_Digits_c (F : Nat) : Ctr E := ⟨chars_Digits_s, fun (x : List UInt8) => chars_Digits F x⟩
theorem chars_Digits_ok (F : Nat) : (chars_Digits_c F).Ok Tryz.prog := Ctr.ok_of (X := ⟨Tryz.prog, tyT, [chars_digit_c F], [], none⟩) (F := F) ⟨E_ok, okC (chars_digit_ok F) (okN), mixed, goN, rvN⟩ (pl := chars_Digits_p) Tryz.func50 (by kernel_rfl) (fun x => by kernel_rfl)
def util_split (F : Nat)  (a0 : List UInt8) (a1 : List (List UInt8)) : Option Twords :=
 (util_letters F a0).bind fun x1 =>
 cond (!x1.2)
 (some (Twords.mk a1 [] 10 false))
 (loopF (σ := Bool × Twords) (R := Twords) (fun rc3 x2 =>
 cond (decide (0 < (x2.2.foperands.length : Int)))
 (rq (decide (0 < (x2.2.foperands.length : Int))) ((cond (decide (((x2.2.foperands.getD 0 []).length : Int) < 2))
 (some true)
 (rq (decide (0 < ((x2.2.foperands.getD 0 []).length : Int))) (some ((((x2.2.foperands.getD 0 []).getD 0 0).toNat : Int) != 45))) : Option Bool).bind fun x4 =>
 cond x4
 (some x2.2)
 (rq ((decide (1 ≤ (x2.2.foperands.length : Int))) && (decide ((x2.2.foperands.length : Int) ≤ (x2.2.foperands.length : Int)))) (cond ((x2.2.foperands.getD 0 []) == ([45, 45] : List UInt8))
 (some ({ x2.2 with foperands := sl x2.2.foperands 1 (x2.2.foperands.length : Int) }))
 ((cond (decide (2 < ((x2.2.foperands.getD 0 []).length : Int)))
 (some true)
 (rq (decide (1 < ((x2.2.foperands.getD 0 []).length : Int))) ((strings_IndexByte F x1.1 (((x2.2.foperands.getD 0 []).getD 1 0).toNat : Int)).bind fun x6 =>
 some (decide (x6 < 0)))) : Option Bool).bind fun x5 =>
 cond x5
 (some (Twords.mk (sl x2.2.foperands 1 (x2.2.foperands.length : Int)) x2.2.fletters x2.2.fcount true))
 (rq ((decide (1 ≤ ((x2.2.foperands.getD 0 []).length : Int))) && (decide (((x2.2.foperands.getD 0 []).length : Int) ≤ ((x2.2.foperands.getD 0 []).length : Int)))) (rq (decide (x2.2.fletters.length + (sl (x2.2.foperands.getD 0 []) 1 ((x2.2.foperands.getD 0 []).length : Int)).length ≤ 9223372036854775807)) ((rq (decide (1 < ((x2.2.foperands.getD 0 []).length : Int))) (cond ((((x2.2.foperands.getD 0 []).getD 1 0).toNat : Int) != 110)
 (some true)
 (some (a0 == ([115, 111, 114, 116] : List UInt8)))) : Option Bool).bind fun x7 =>
 cond x7
 (rc3 (x2.1, (Twords.mk (sl x2.2.foperands 1 (x2.2.foperands.length : Int)) (x2.2.fletters ++ (sl (x2.2.foperands.getD 0 []) 1 ((x2.2.foperands.getD 0 []).length : Int))) x2.2.fcount x2.2.fbad)))
 ((cond (decide (0 < ((sl x2.2.foperands 1 (x2.2.foperands.length : Int)).length : Int)))
 (rq (decide (0 < ((sl x2.2.foperands 1 (x2.2.foperands.length : Int)).length : Int))) ((chars_Digits F ((sl x2.2.foperands 1 (x2.2.foperands.length : Int)).getD 0 [])).bind fun x9 =>
 some (x9.2, (Twords.mk (sl x2.2.foperands 1 (x2.2.foperands.length : Int)) (x2.2.fletters ++ (sl (x2.2.foperands.getD 0 []) 1 ((x2.2.foperands.getD 0 []).length : Int))) x9.1 x2.2.fbad))))
 (some (x2.1, (Twords.mk (sl x2.2.foperands 1 (x2.2.foperands.length : Int)) (x2.2.fletters ++ (sl (x2.2.foperands.getD 0 []) 1 ((x2.2.foperands.getD 0 []).length : Int))) x2.2.fcount x2.2.fbad))) : Option (Bool × Twords)).bind fun x8 =>
 (cond ((x8.2.foperands.length : Int) == 0)
 (some true)
 (some (!x8.1)) : Option Bool).bind fun x10 =>
 cond x10
 (some ({ x8.2 with fbad := true }))
 (rq ((decide (1 ≤ (x8.2.foperands.length : Int))) && (decide ((x8.2.foperands.length : Int) ≤ (x8.2.foperands.length : Int)))) (rc3 (x8.1, { x8.2 with foperands := sl x8.2.foperands 1 (x8.2.foperands.length : Int) }))))))))))))
 (some x2.2)) F (x1.2, (Twords.mk a1 [] 10 false)))
def util_split_s : Shp := ⟨31, [.one (.dat .str), .one (.dat (.lst .str))], [], [], ⟨.one (.dat (.ext 2)), [], [], []⟩, none, []⟩
def util_split_p : Plan := .seq [] none (.leaf) (.seq [] none (.leaf) (.seq [] none (.leaf) (.seq [] none (.leaf) (.seq [] none (.loop [] ⟨[(7, .one (.dat .bool))], [none, some (.cells 61 [.pk (.ext 2)])], [], []⟩ (.seq [] none (.leaf) (.seq [] none (.leaf) (.seq [] none (.seq [] none (.region [(8, ⟨[(34, .one (.dat .bool))], [none, none], [], []⟩, false)]) (.leaf)) (.seq [] none (.leaf) (.seq [] none (.leaf) (.seq [] none (.seq [] none (.region [(10, ⟨[(50, .one (.dat .bool))], [none, none], [], []⟩, false)]) (.leaf)) (.seq [] none (.draw [⟨true, 6, none⟩, ⟨false, 1, none⟩]) (.seq [] none (.seq [] none (.region [(7, ⟨[(64, .one (.dat .bool))], [none, none], [], []⟩, false)]) (.leaf)) (.seq [] (some (⟨[(7, .one (.dat .bool))], [none, some (.cells 61 [.pk (.ext 2)])], [], []⟩, false)) (.leaf) (.seq [] none (.seq [] none (.region [(8, ⟨[(85, .one (.dat .bool))], [none, none], [], []⟩, false)]) (.leaf)) (.leaf)))))))))))) (.leaf)))))
def util_split_c (F : Nat) : Ctr E := ⟨util_split_s, fun (x : (List UInt8) × (List (List UInt8))) => util_split F x.1 x.2⟩
theorem util_split_ok (F : Nat) : (util_split_c F).Ok Tryz.prog := Ctr.ok_of (X := ⟨Tryz.prog, tyT, [util_letters_c F, strings_IndexByte_c F, chars_Digits_c F], [], none⟩) (F := F) ⟨E_ok, okC (util_letters_ok F) (okC (strings_IndexByte_ok F) (okC (chars_Digits_ok F) (okN))), mixed, goN, rvN⟩ (pl := util_split_p) Tryz.func31 (by kernel_rfl) (fun x => by kernel_rfl)
def util_load (F : Nat)  (a0 : TUtil) : Option (TUtil × TUtil × Twords × TAinti648 × (List Int)) :=
 (cond (decide (0 < (a0.fArgs.length : Int)))
 (rq ((decide (1 ≤ (a0.fArgs.length : Int))) && (decide ((a0.fArgs.length : Int) ≤ (a0.fArgs.length : Int)))) ((util_split F a0.fName (sl a0.fArgs 1 (a0.fArgs.length : Int))).bind fun x2 =>
 some (a0, x2, (0, (0, (0, (0, (0, (0, (0, (0, ())))))))), ([] : List Int))))
 (some (a0, (Twords.mk [] [] 0 false), (0, (0, (0, (0, (0, (0, (0, (0, ())))))))), ([] : List Int))) : Option (TUtil × Twords × TAinti648 × (List Int))).bind fun x1 =>
 loopF (σ := Int × TUtil × Twords × TAinti648 × (List Int)) (R := TUtil × TUtil × Twords × TAinti648 × (List Int)) (fun rc4 x3 =>
 cond (decide (x3.1 < (a0.fLines.length : Int)))
 (rq ((decide (0 ≤ x3.1)) && (decide (x3.1 < (a0.fLines.length : Int)))) ((atoiF F (a0.fLines.getD (Int.toNat x3.1) [])).bind fun x5 =>
 cond (decide (x3.1 < 8))
 (cond (decide (x3.1 = 0))
 (rc4 (w64 (x3.1 + 1), x3.2.1, x3.2.2.1, (x5, x3.2.2.2.1.2), x3.2.2.2.2))
 (cond (decide (x3.1 = 1))
 (rc4 (w64 (x3.1 + 1), x3.2.1, x3.2.2.1, (x3.2.2.2.1.1, (x5, x3.2.2.2.1.2.2)), x3.2.2.2.2))
 (cond (decide (x3.1 = 2))
 (rc4 (w64 (x3.1 + 1), x3.2.1, x3.2.2.1, (x3.2.2.2.1.1, (x3.2.2.2.1.2.1, (x5, x3.2.2.2.1.2.2.2))), x3.2.2.2.2))
 (cond (decide (x3.1 = 3))
 (rc4 (w64 (x3.1 + 1), x3.2.1, x3.2.2.1, (x3.2.2.2.1.1, (x3.2.2.2.1.2.1, (x3.2.2.2.1.2.2.1, (x5, x3.2.2.2.1.2.2.2.2)))), x3.2.2.2.2))
 (cond (decide (x3.1 = 4))
 (rc4 (w64 (x3.1 + 1), x3.2.1, x3.2.2.1, (x3.2.2.2.1.1, (x3.2.2.2.1.2.1, (x3.2.2.2.1.2.2.1, (x3.2.2.2.1.2.2.2.1, (x5, x3.2.2.2.1.2.2.2.2.2))))), x3.2.2.2.2))
 (cond (decide (x3.1 = 5))
 (rc4 (w64 (x3.1 + 1), x3.2.1, x3.2.2.1, (x3.2.2.2.1.1, (x3.2.2.2.1.2.1, (x3.2.2.2.1.2.2.1, (x3.2.2.2.1.2.2.2.1, (x3.2.2.2.1.2.2.2.2.1, (x5, x3.2.2.2.1.2.2.2.2.2.2)))))), x3.2.2.2.2))
 (cond (decide (x3.1 = 6))
 (rc4 (w64 (x3.1 + 1), x3.2.1, x3.2.2.1, (x3.2.2.2.1.1, (x3.2.2.2.1.2.1, (x3.2.2.2.1.2.2.1, (x3.2.2.2.1.2.2.2.1, (x3.2.2.2.1.2.2.2.2.1, (x3.2.2.2.1.2.2.2.2.2.1, (x5, x3.2.2.2.1.2.2.2.2.2.2.2))))))), x3.2.2.2.2))
 (cond (decide (x3.1 = 7))
 (rc4 (w64 (x3.1 + 1), x3.2.1, x3.2.2.1, (x3.2.2.2.1.1, (x3.2.2.2.1.2.1, (x3.2.2.2.1.2.2.1, (x3.2.2.2.1.2.2.2.1, (x3.2.2.2.1.2.2.2.2.1, (x3.2.2.2.1.2.2.2.2.2.1, (x3.2.2.2.1.2.2.2.2.2.2.1, (x5, ())))))))), x3.2.2.2.2))
 (none)))))))))
 (rq ((decide (x3.2.2.2.2.length + ([x5] : List Int).length ≤ 9223372036854775807)) && (decide ((x3.2.2.2.2.length + ([x5] : List Int).length) * 8 ≤ 140737488355328))) (rc4 (w64 (x3.1 + 1), x3.2.1, x3.2.2.1, x3.2.2.2.1, x3.2.2.2.2 ++ ([x5] : List Int))))))
 (some (a0, x3.2.1, x3.2.2.1, x3.2.2.2.1, x3.2.2.2.2))) F (0, x1.1, x1.2.1, x1.2.2.1, x1.2.2.2)
def util_load_s : Shp := ⟨25, [.one (.dat (.ext 0))], [], [], ⟨.one (.ptr 1 0), [some (.cells 26 [.pk (.ext 0)]), some (bt0)], [some (3, 1)], []⟩, none, []⟩
def util_load_p : Plan := .seq [] none (.leaf) (.seq [] none (.leaf) (.seq [.cell 1 20 3 (.int .i64)] (some (⟨[], [none, some (bt0)], [none], []⟩, false)) (.seq [] none (.leaf) (.cond (.draw [⟨true, 6, none⟩, ⟨false, 4, none⟩]) (.leaf))) (.seq [] none (.seq [] none (.leaf) (.loop [] ⟨[(27, .one (.dat (.int .i64)))], [none, some (bt0)], [some (3, 1)], []⟩ (.leaf))) (.leaf))))
def util_load_c (F : Nat) : Ctr E := ⟨util_load_s, fun (x : TUtil) => util_load F x⟩
theorem util_load_ok (F : Nat) : (util_load_c F).Ok Tryz.prog := Ctr.ok_of (X := ⟨Tryz.prog, tyT, [util_split_c F, strconvAtoi_c F], [], none⟩) (F := F) ⟨E_ok, okC (util_split_ok F) (okC (strconvAtoi_ok F) (okN)), mixed, goN, rvN⟩ (pl := util_load_p) Tryz.func25 (by kernel_rfl) (fun x => by kernel_rfl)
def util_element (F : Nat)  (a0 : List (List UInt8)) (a1 : Int) : Option (List UInt8) :=
 (cond (decide (a1 < 0))
 (some true)
 (some (decide ((a0.length : Int) ≤ a1))) : Option Bool).bind fun x1 =>
 cond x1
 (some [])
 (rq ((decide (0 ≤ a1)) && (decide (a1 < (a0.length : Int)))) (some (a0.getD (Int.toNat a1) [])))
def util_element_s : Shp := ⟨38, [.one (.dat (.lst .str)), .one (.dat (.int .i64))], [], [], ⟨.one (.dat .str), [], [], []⟩, none, []⟩
def util_element_p : Plan := .seq [] none (.leaf) (.seq [] none (.seq [] none (.region [(8, ⟨[(12, .one (.dat .bool))], [], [], []⟩, false)]) (.leaf)) (.leaf))
def util_element_c (F : Nat) : Ctr E := ⟨util_element_s, fun (x : (List (List UInt8)) × Int) => util_element F x.1 x.2⟩
theorem util_element_ok (F : Nat) : (util_element_c F).Ok Tryz.prog := Ctr.ok_of (X := ⟨Tryz.prog, tyT, [], [], none⟩) (F := F) ⟨E_ok, okN, mixed, goN, rvN⟩ (pl := util_element_p) Tryz.func38 (by kernel_rfl) (fun x => by kernel_rfl)
def stringslite_HasPrefix (F : Nat)  (a0 : List UInt8) (a1 : List UInt8) : Option Bool :=
 (cond (decide ((a1.length : Int) ≤ (a0.length : Int)))
 (rq ((decide (0 ≤ (a1.length : Int))) && (decide ((a1.length : Int) ≤ (a0.length : Int)))) (some ((sl a0 0 (a1.length : Int)) == a1)))
 (some false) : Option Bool).bind fun x1 =>
 some x1
def stringslite_HasPrefix_s : Shp := ⟨135, [.one (.dat .str), .one (.dat .str)], [], [], ⟨.one (.dat .bool), [], [], []⟩, none, []⟩
def stringslite_HasPrefix_p : Plan := .seq [] none (.leaf) (.seq [] none (.region [(13, ⟨[(17, .one (.dat .bool))], [], [], []⟩, false)]) (.leaf))
def stringslite_HasPrefix_c (F : Nat) : Ctr E := ⟨stringslite_HasPrefix_s, fun (x : (List UInt8) × (List UInt8)) => stringslite_HasPrefix F x.1 x.2⟩
theorem stringslite_HasPrefix_ok (F : Nat) : (stringslite_HasPrefix_c F).Ok Tryz.prog := Ctr.ok_of (X := ⟨Tryz.prog, tyT, [], [], none⟩) (F := F) ⟨E_ok, okN, mixed, goN, rvN⟩ (pl := stringslite_HasPrefix_p) Tryz.func135 (by kernel_rfl) (fun x => by kernel_rfl)
def stringslite_CutPrefix (F : Nat)  (a0 : List UInt8) (a1 : List UInt8) : Option ((List UInt8) × Bool) :=
 (stringslite_HasPrefix F a0 a1).bind fun x1 =>
 cond (!x1)
 (some (a0, false))
 (rq ((decide (0 ≤ (a1.length : Int))) && ((decide ((a1.length : Int) ≤ (a0.length : Int))) && (decide ((a0.length : Int) ≤ (a0.length : Int))))) (some (sl a0 (a1.length : Int) (a0.length : Int), true)))
def stringslite_CutPrefix_s : Shp := ⟨127, [.one (.dat .str), .one (.dat .str)], [], [], ⟨.tup [.dat .str, .dat .bool], [], [], []⟩, none, []⟩
def stringslite_CutPrefix_p : Plan := .leaf
def stringslite_CutPrefix_c (F : Nat) : Ctr E := ⟨stringslite_CutPrefix_s, fun (x : (List UInt8) × (List UInt8)) => stringslite_CutPrefix F x.1 x.2⟩
theorem stringslite_CutPrefix_ok (F : Nat) : (stringslite_CutPrefix_c F).Ok Tryz.prog := Ctr.ok_of (X := ⟨Tryz.prog, tyT, [stringslite_HasPrefix_c F], [], none⟩) (F := F) ⟨E_ok, okC (stringslite_HasPrefix_ok F) (okN), mixed, goN, rvN⟩ (pl := stringslite_CutPrefix_p) Tryz.func127 (by kernel_rfl) (fun x => by kernel_rfl)
def strings_CutPrefix (F : Nat)  (a0 : List UInt8) (a1 : List UInt8) : Option ((List UInt8) × Bool) :=
 (stringslite_CutPrefix F a0 a1).bind fun x1 =>
 some (x1.1, x1.2)
def strings_CutPrefix_s : Shp := ⟨93, [.one (.dat .str), .one (.dat .str)], [], [], ⟨.tup [.dat .str, .dat .bool], [], [], []⟩, none, []⟩
def strings_CutPrefix_p : Plan := .leaf
def strings_CutPrefix_c (F : Nat) : Ctr E := ⟨strings_CutPrefix_s, fun (x : (List UInt8) × (List UInt8)) => strings_CutPrefix F x.1 x.2⟩
theorem strings_CutPrefix_ok (F : Nat) : (strings_CutPrefix_c F).Ok Tryz.prog := Ctr.ok_of (X := ⟨Tryz.prog, tyT, [stringslite_CutPrefix_c F], [], none⟩) (F := F) ⟨E_ok, okC (stringslite_CutPrefix_ok F) (okN), mixed, goN, rvN⟩ (pl := strings_CutPrefix_p) Tryz.func93 (by kernel_rfl) (fun x => by kernel_rfl)
def util_integer (F : Nat)  (a0 : List UInt8) : Option (Int × Bool) :=
 (strings_CutPrefix F a0 ([45] : List UInt8)).bind fun x1 =>
 (chars_Digits F x1.1).bind fun x2 =>
 (cond x1.2
 (some (w64 (0 - x2.1)))
 (some x2.1) : Option Int).bind fun x3 =>
 some (x3, x2.2)
def util_integer_s : Shp := ⟨90, [.one (.dat .str)], [], [], ⟨.tup [.dat (.int .i64), .dat .bool], [], [], []⟩, none, []⟩
def util_integer_p : Plan := .seq [] none (.leaf) (.seq [] none (.leaf) (.seq [] none (.leaf) (.seq [] (some (⟨[(6, .one (.dat (.int .i64)))], [], [], []⟩, false)) (.leaf) (.leaf))))
def util_integer_c (F : Nat) : Ctr E := ⟨util_integer_s, fun (x : List UInt8) => util_integer F x⟩
theorem util_integer_ok (F : Nat) : (util_integer_c F).Ok Tryz.prog := Ctr.ok_of (X := ⟨Tryz.prog, tyT, [strings_CutPrefix_c F, chars_Digits_c F], [], none⟩) (F := F) ⟨E_ok, okC (strings_CutPrefix_ok F) (okC (chars_Digits_ok F) (okN)), mixed, goN, rvN⟩ (pl := util_integer_p) Tryz.func90 (by kernel_rfl) (fun x => by kernel_rfl)
def util_words_has (F : Nat)  (a0 : Twords) (a1 : Int) : Option Bool :=
 (strings_IndexByte F a0.fletters a1).bind fun x1 =>
 some (decide (0 ≤ x1))
def util_words_has_s : Shp := ⟨91, [.one (.dat (.ext 2)), .one (.dat (.int .u8))], [], [], ⟨.one (.dat .bool), [], [], []⟩, none, []⟩
def util_words_has_p : Plan := .leaf
def util_words_has_c (F : Nat) : Ctr E := ⟨util_words_has_s, fun (x : Twords × Int) => util_words_has F x.1 x.2⟩
theorem util_words_has_ok (F : Nat) : (util_words_has_c F).Ok Tryz.prog := Ctr.ok_of (X := ⟨Tryz.prog, tyT, [strings_IndexByte_c F], [], none⟩) (F := F) ⟨E_ok, okC (strings_IndexByte_ok F) (okN), mixed, goN, rvN⟩ (pl := util_words_has_p) Tryz.func91 (by kernel_rfl) (fun x => by kernel_rfl)
def util_engine_fits (F : Nat)  (a0 : Int) (a1 : TUtil) (a2 : Twords) (a3 : TAinti648) (a4 : List Int) : Option Bool :=
 cond (a1.fName == ([91] : List UInt8))
 ((cond (decide (0 < a0))
 (rq ((decide (0 ≤ w64 (a0 - 1))) && (decide (w64 (a0 - 1) < (a2.foperands.length : Int)))) (some ((a2.foperands.getD (Int.toNat (w64 (a0 - 1))) []) == ([93] : List UInt8))))
 (some false) : Option Bool).bind fun x1 =>
 some x1)
 (cond (a1.fName == ([115, 108, 101, 101, 112] : List UInt8))
 ((util_element F a2.foperands 0).bind fun x2 =>
 (chars_Digits F x2).bind fun x3 =>
 (cond (a0 == 1)
 (some x3.2)
 (some false) : Option Bool).bind fun x4 =>
 some x4)
 (cond (a1.fName == ([115, 101, 113] : List UInt8))
 ((util_element F a2.foperands 0).bind fun x5 =>
 (util_integer F x5).bind fun x6 =>
 (util_element F a2.foperands (w64 (a0 - 1))).bind fun x7 =>
 (util_integer F x7).bind fun x8 =>
 (cond (a0 == 1)
 (some true)
 (some (a0 == 2)) : Option Bool).bind fun x9 =>
 (cond x9
 (some x6.2)
 (some false) : Option Bool).bind fun x10 =>
 (cond x10
 (some x8.2)
 (some false) : Option Bool).bind fun x11 =>
 some x11)
 (cond (a1.fName == ([114, 109] : List UInt8))
 ((cond (decide (0 < a0))
 (some true)
 ((util_words_has F a2 102).bind fun x13 =>
 some x13) : Option Bool).bind fun x12 =>
 some x12)
 ((cond (a1.fName == ([103, 114, 101, 112] : List UInt8))
 (some (a1.fName == ([103, 114, 101, 112] : List UInt8)))
 (cond (a1.fName == ([116, 111, 117, 99, 104] : List UInt8))
 (some (a1.fName == ([116, 111, 117, 99, 104] : List UInt8)))
 (cond (a1.fName == ([109, 107, 100, 105, 114] : List UInt8))
 (some (a1.fName == ([109, 107, 100, 105, 114] : List UInt8)))
 (cond (a1.fName == ([114, 109, 100, 105, 114] : List UInt8))
 (some (a1.fName == ([114, 109, 100, 105, 114] : List UInt8)))
 (some (a1.fName == ([107, 105, 108, 108] : List UInt8)))))) : Option Bool).bind fun x14 =>
 cond x14
 (some (decide (0 < a0)))
 ((cond (a1.fName == ([109, 118] : List UInt8))
 (some (a1.fName == ([109, 118] : List UInt8)))
 (some (a1.fName == ([99, 112] : List UInt8))) : Option Bool).bind fun x15 =>
 cond x15
 (some (a0 == 2))
 (some true))))))
def util_engine_fits_s : Shp := ⟨53, [.one (.ptr 0 0), .one (.dat (.int .i64))], [(bt0)], [(3, 1)], ⟨.one (.dat .bool), [none], [none], []⟩, none, []⟩
def util_engine_fits_p : Plan := .seq [] none (.leaf) (.seq [] none (.seq [] none (.leaf) (.seq [] none (.leaf) (.cond (.seq [] none (.region [(14, ⟨[(31, .one (.dat .bool))], [none], [none], []⟩, false)]) (.leaf)) (.seq [] none (.leaf) (.cond (.seq [] none (.leaf) (.seq [] none (.region [(5, ⟨[(48, .one (.dat .bool))], [none], [none], []⟩, false)]) (.leaf))) (.seq [] none (.leaf) (.cond (.seq [] none (.leaf) (.seq [] none (.leaf) (.seq [] none (.region [(6, ⟨[(78, .one (.dat .bool))], [none], [none], []⟩, false), (3, ⟨[(81, .one (.dat .bool))], [none], [none], []⟩, false), (3, ⟨[(84, .one (.dat .bool))], [none], [none], []⟩, false)]) (.leaf)))) (.seq [] none (.leaf) (.cond (.seq [] none (.region [(9, ⟨[(95, .one (.dat .bool))], [none], [none], []⟩, false)]) (.leaf)) (.seq [] (some (⟨[(96, .one (.dat .bool))], [none], [none], []⟩, false)) (.leaf) (.cond (.leaf) (.seq [] (some (⟨[(104, .one (.dat .bool))], [none], [none], []⟩, false)) (.leaf) (.leaf))))))))))))) (.leaf))
def util_engine_fits_c (F : Nat) : Ctr E := ⟨util_engine_fits_s, fun (x : Int × TUtil × Twords × TAinti648 × (List Int)) => util_engine_fits F x.1 x.2.1 x.2.2.1 x.2.2.2.1 x.2.2.2.2⟩
theorem util_engine_fits_ok (F : Nat) : (util_engine_fits_c F).Ok Tryz.prog := Ctr.ok_of (X := ⟨Tryz.prog, tyT, [util_element_c F, chars_Digits_c F, util_integer_c F, util_words_has_c F], [], none⟩) (F := F) ⟨E_ok, okC (util_element_ok F) (okC (chars_Digits_ok F) (okC (util_integer_ok F) (okC (util_words_has_ok F) (okN)))), mixed, goN, rvN⟩ (pl := util_engine_fits_p) Tryz.func53 (by kernel_rfl) (fun x => by kernel_rfl)
def util_engine_write (F : Nat)  (a0 : Int) (a1 : List UInt8) (a2 : Int) (a3 : TUtil) (a4 : Twords) (a5 : TAinti648) (a6 : List Int) : Option (TUtil × Twords × TAinti648 × (List Int)) :=
 cond (a1 == [])
 (some ({ a3 with fState := a2 }, a4, a5, a6))
 (some ({ a3 with fState := 1, fOut := a1 }, a4, (a2, (a0, a5.2.2)), a6))
def util_engine_write_s : Shp := ⟨36, [.one (.ptr 0 0), .one (.dat (.int .i64)), .one (.dat .str), .one (.dat (.int .i64))], [(bt0)], [(3, 1)], ⟨.tup [], [some (bt0)], [none], []⟩, none, []⟩
def util_engine_write_p : Plan := .seq [] none (.leaf) (.seq [] none (.leaf) (.drawP [] [] [⟨[(0, true), (1, true), (2, true), (3, true), (4, true), (5, true), (6, true), (8, true), (9, true), (7, false), (10, false), (11, false)], none⟩]))
def util_engine_write_c (F : Nat) : Ctr E := ⟨util_engine_write_s, fun (x : Int × (List UInt8) × Int × TUtil × Twords × TAinti648 × (List Int)) => util_engine_write F x.1 x.2.1 x.2.2.1 x.2.2.2.1 x.2.2.2.2.1 x.2.2.2.2.2.1 x.2.2.2.2.2.2⟩
theorem util_engine_write_ok (F : Nat) : (util_engine_write_c F).Ok Tryz.prog := Ctr.ok_of (X := ⟨Tryz.prog, tyT, [], [], none⟩) (F := F) ⟨E_ok, okN, mixed, goN, rvN⟩ (pl := util_engine_write_p) Tryz.func36 (by kernel_rfl) (fun x => by kernel_rfl)
def util_engine_usage (F : Nat)  (a0 : TUtil) (a1 : Twords) (a2 : TAinti648) (a3 : List Int) : Option (TUtil × Twords × TAinti648 × (List Int)) :=
 rq (decide (a0.fName.length + ([58, 32, 117, 115, 97, 103, 101, 10] : List UInt8).length ≤ 9223372036854775807)) ((util_engine_write F 2 (a0.fName ++ ([58, 32, 117, 115, 97, 103, 101, 10] : List UInt8)) 4 ({ a0 with fN := 2 }) a1 a2 a3).bind fun x1 =>
 some (x1.1, x1.2.1, x1.2.2.1, x1.2.2.2))
def util_engine_usage_s : Shp := ⟨54, [.one (.ptr 0 0)], [(bt0)], [(3, 1)], ⟨.tup [], [some (bt0)], [none], []⟩, none, []⟩
def util_engine_usage_p : Plan := .leaf
def util_engine_usage_c (F : Nat) : Ctr E := ⟨util_engine_usage_s, fun (x : TUtil × Twords × TAinti648 × (List Int)) => util_engine_usage F x.1 x.2.1 x.2.2.1 x.2.2.2⟩
theorem util_engine_usage_ok (F : Nat) : (util_engine_usage_c F).Ok Tryz.prog := Ctr.ok_of (X := ⟨Tryz.prog, tyT, [util_engine_write_c F], [], none⟩) (F := F) ⟨E_ok, okC (util_engine_write_ok F) (okN), mixed, goN, rvN⟩ (pl := util_engine_usage_p) Tryz.func54 (by kernel_rfl) (fun x => by kernel_rfl)
def util_engine_exit (F : Nat)  (a0 : Int) (a1 : TUtil) (a2 : Twords) (a3 : TAinti648) (a4 : List Int) : Option (TUtil × Twords × TAinti648 × (List Int)) :=
 some ({ a1 with fState := 4, fN := a0 }, a2, a3, a4)
def util_engine_exit_s : Shp := ⟨28, [.one (.ptr 0 0), .one (.dat (.int .i64))], [(bt0)], [(3, 1)], ⟨.tup [], [some (bt0)], [none], []⟩, none, []⟩
def util_engine_exit_p : Plan := .leaf
def util_engine_exit_c (F : Nat) : Ctr E := ⟨util_engine_exit_s, fun (x : Int × TUtil × Twords × TAinti648 × (List Int)) => util_engine_exit F x.1 x.2.1 x.2.2.1 x.2.2.2.1 x.2.2.2.2⟩
theorem util_engine_exit_ok (F : Nat) : (util_engine_exit_c F).Ok Tryz.prog := Ctr.ok_of (X := ⟨Tryz.prog, tyT, [], [], none⟩) (F := F) ⟨E_ok, okN, mixed, goN, rvN⟩ (pl := util_engine_exit_p) Tryz.func28 (by kernel_rfl) (fun x => by kernel_rfl)
def format_Echo (F : Nat)  (a0 : List (List UInt8)) : Option (List UInt8) :=
 (cond (decide (0 < (a0.length : Int)))
 (rq (decide (0 < (a0.length : Int))) (some ((a0.getD 0 []) == ([45, 110] : List UInt8))))
 (some false) : Option Bool).bind fun x1 =>
 cond x1
 (rq ((decide (1 ≤ (a0.length : Int))) && (decide ((a0.length : Int) ≤ (a0.length : Int)))) ((joinF F (sl a0 1 (a0.length : Int)) ([32] : List UInt8)).bind fun x2 =>
 some x2))
 ((joinF F a0 ([32] : List UInt8)).bind fun x3 =>
 rq (decide (x3.length + ([10] : List UInt8).length ≤ 9223372036854775807)) (some (x3 ++ ([10] : List UInt8))))
def format_Echo_s : Shp := ⟨55, [.one (.dat (.lst .str))], [], [], ⟨.one (.dat .str), [], [], []⟩, none, []⟩
def format_Echo_p : Plan := .seq [] none (.leaf) (.seq [] none (.seq [] none (.region [(9, ⟨[(11, .one (.dat .bool))], [], [], []⟩, false)]) (.leaf)) (.leaf))
def format_Echo_c (F : Nat) : Ctr E := ⟨format_Echo_s, fun (x : List (List UInt8)) => format_Echo F x⟩
theorem format_Echo_ok (F : Nat) : (format_Echo_c F).Ok Tryz.prog := Ctr.ok_of (X := ⟨Tryz.prog, tyT, [stringsJoin_c F], [], none⟩) (F := F) ⟨E_ok, okC (stringsJoin_ok F) (okN), mixed, goN, rvN⟩ (pl := format_Echo_p) Tryz.func55 (by kernel_rfl) (fun x => by kernel_rfl)
def util_engine_directory (F : Nat)  (a0 : TUtil) (a1 : Twords) (a2 : TAinti648) (a3 : List Int) : Option (List UInt8) :=
 loopF (σ := Int) (R := List UInt8) (fun rc2 x1 =>
 cond (decide (x1 < (a0.fEnv.length : Int)))
 (rq ((decide (0 ≤ x1)) && (decide (x1 < (a0.fEnv.length : Int)))) ((strings_CutPrefix F (a0.fEnv.getD (Int.toNat x1) []) ([80, 87, 68, 61] : List UInt8)).bind fun x3 =>
 cond x3.2
 (some x3.1)
 (rc2 (w64 (x1 + 1)))))
 (some ([47] : List UInt8))) F 0
def util_engine_directory_s : Shp := ⟨57, [.one (.ptr 0 0)], [(bt0)], [(3, 1)], ⟨.one (.dat .str), [none], [none], []⟩, none, []⟩
def util_engine_directory_p : Plan := .seq [] none (.leaf) (.seq [] none (.seq [] none (.leaf) (.loop [] ⟨[(13, .one (.dat (.int .i64)))], [none], [none], []⟩ (.leaf))) (.leaf))
def util_engine_directory_c (F : Nat) : Ctr E := ⟨util_engine_directory_s, fun (x : TUtil × Twords × TAinti648 × (List Int)) => util_engine_directory F x.1 x.2.1 x.2.2.1 x.2.2.2⟩
theorem util_engine_directory_ok (F : Nat) : (util_engine_directory_c F).Ok Tryz.prog := Ctr.ok_of (X := ⟨Tryz.prog, tyT, [strings_CutPrefix_c F], [], none⟩) (F := F) ⟨E_ok, okC (strings_CutPrefix_ok F) (okN), mixed, goN, rvN⟩ (pl := util_engine_directory_p) Tryz.func57 (by kernel_rfl) (fun x => by kernel_rfl)
def testexpr_isUnary (F : Nat)  (a0 : List UInt8) : Option Bool :=
 cond (a0 == ([45, 101] : List UInt8))
 (cond (a0 == ([45, 101] : List UInt8))
 (some true)
 (some false))
 (cond (a0 == ([45, 102] : List UInt8))
 (cond (a0 == ([45, 102] : List UInt8))
 (some true)
 (some false))
 (cond (a0 == ([45, 100] : List UInt8))
 (cond (a0 == ([45, 100] : List UInt8))
 (some true)
 (some false))
 (cond (a0 == ([45, 115] : List UInt8))
 (cond (a0 == ([45, 115] : List UInt8))
 (some true)
 (some false))
 (cond (a0 == ([45, 110] : List UInt8))
 (cond (a0 == ([45, 110] : List UInt8))
 (some true)
 (some false))
 (cond (a0 == ([45, 122] : List UInt8))
 (some true)
 (some false))))))
def testexpr_isUnary_s : Shp := ⟨180, [.one (.dat .str)], [], [], ⟨.one (.dat .bool), [], [], []⟩, none, []⟩
def testexpr_isUnary_p : Plan := .leaf
def testexpr_isUnary_c (F : Nat) : Ctr E := ⟨testexpr_isUnary_s, fun (x : List UInt8) => testexpr_isUnary F x⟩
theorem testexpr_isUnary_ok (F : Nat) : (testexpr_isUnary_c F).Ok Tryz.prog := Ctr.ok_of (X := ⟨Tryz.prog, tyT, [], [], none⟩) (F := F) ⟨E_ok, okN, mixed, goN, rvN⟩ (pl := testexpr_isUnary_p) Tryz.func180 (by kernel_rfl) (fun x => by kernel_rfl)
def testexpr_parser_two (F : Nat)  (a0 : List (List UInt8)) (a1 : Tparser) : Option (Bool × Tparser) :=
 rq (decide (0 < (a0.length : Int))) (cond ((a0.getD 0 []) == ([33] : List UInt8))
 (rq (decide (1 < (a0.length : Int))) (some ((a0.getD 1 []) == [], a1)))
 (rq (decide (0 < (a0.length : Int))) ((testexpr_isUnary F (a0.getD 0 [])).bind fun x1 =>
 cond x1
 (rq (decide (0 < (a0.length : Int))) (rq (decide (1 < (a0.length : Int))) none))
 (some (false, { a1 with fusage := true })))))
def testexpr_parser_two_s : Shp := ⟨159, [.one (.ptr 0 0), .one (.dat (.lst .str))], [.cells 153 [.pk (.ext 5)]], [], ⟨.one (.dat .bool), [some (.cells 153 [.pk (.ext 5)])], [], []⟩, none, []⟩
def testexpr_parser_two_p : Plan := .seq [] none (.leaf) (.seq [] none (.leaf) (.seq [] none (.seq [] none (.leaf) (.cond (.seq [] none (.draw [⟨true, 7, none⟩, ⟨false, 2, none⟩]) (.leaf)) (.leaf))) (.leaf)))
def testexpr_parser_two_c (F : Nat) : Ctr E := ⟨testexpr_parser_two_s, fun (x : (List (List UInt8)) × Tparser) => testexpr_parser_two F x.1 x.2⟩
theorem testexpr_parser_two_ok (F : Nat) : (testexpr_parser_two_c F).Ok Tryz.prog := Ctr.ok_of (X := ⟨Tryz.prog, tyT, [testexpr_isUnary_c F, absurd181_c F], [], none⟩) (F := F) ⟨E_ok, okC (testexpr_isUnary_ok F) (okC (absurd181_ok F) (okN)), mixed, goN, rvN⟩ (pl := testexpr_parser_two_p) Tryz.func159 (by kernel_rfl) (fun x => by kernel_rfl)
def testexpr_isBinary (F : Nat)  (a0 : List UInt8) : Option Bool :=
 cond (a0 == ([61] : List UInt8))
 (cond (a0 == ([61] : List UInt8))
 (some true)
 (some false))
 (cond (a0 == ([33, 61] : List UInt8))
 (cond (a0 == ([33, 61] : List UInt8))
 (some true)
 (some false))
 (cond (a0 == ([45, 101, 113] : List UInt8))
 (cond (a0 == ([45, 101, 113] : List UInt8))
 (some true)
 (some false))
 (cond (a0 == ([45, 110, 101] : List UInt8))
 (cond (a0 == ([45, 110, 101] : List UInt8))
 (some true)
 (some false))
 (cond (a0 == ([45, 108, 116] : List UInt8))
 (cond (a0 == ([45, 108, 116] : List UInt8))
 (some true)
 (some false))
 (cond (a0 == ([45, 108, 101] : List UInt8))
 (cond (a0 == ([45, 108, 101] : List UInt8))
 (some true)
 (some false))
 (cond (a0 == ([45, 103, 116] : List UInt8))
 (cond (a0 == ([45, 103, 116] : List UInt8))
 (some true)
 (some false))
 (cond (a0 == ([45, 103, 101] : List UInt8))
 (some true)
 (some false))))))))
def testexpr_isBinary_s : Shp := ⟨182, [.one (.dat .str)], [], [], ⟨.one (.dat .bool), [], [], []⟩, none, []⟩
def testexpr_isBinary_p : Plan := .leaf
def testexpr_isBinary_c (F : Nat) : Ctr E := ⟨testexpr_isBinary_s, fun (x : List UInt8) => testexpr_isBinary F x⟩
theorem testexpr_isBinary_ok (F : Nat) : (testexpr_isBinary_c F).Ok Tryz.prog := Ctr.ok_of (X := ⟨Tryz.prog, tyT, [], [], none⟩) (F := F) ⟨E_ok, okN, mixed, goN, rvN⟩ (pl := testexpr_isBinary_p) Tryz.func182 (by kernel_rfl) (fun x => by kernel_rfl)
def testexpr_parser_binary (F : Nat)  (a0 : List UInt8) (a1 : List UInt8) (a2 : List UInt8) (a3 : Tparser) : Option Bool :=
 cond (a1 == ([61] : List UInt8))
 (some (a0 == a2))
 (cond (a1 == ([33, 61] : List UInt8))
 (some (!(a0 == a2)))
 (none))
def testexpr_parser_binary_s : Shp := ⟨183, [.one (.ptr 0 0), .one (.dat .str), .one (.dat .str), .one (.dat .str)], [.cells 153 [.pk (.ext 5)]], [], ⟨.one (.dat .bool), [none], [], []⟩, none, []⟩
def testexpr_parser_binary_p : Plan := .leaf
def testexpr_parser_binary_c (F : Nat) : Ctr E := ⟨testexpr_parser_binary_s, fun (x : (List UInt8) × (List UInt8) × (List UInt8) × Tparser) => testexpr_parser_binary F x.1 x.2.1 x.2.2.1 x.2.2.2⟩
theorem testexpr_parser_binary_ok (F : Nat) : (testexpr_parser_binary_c F).Ok Tryz.prog := Ctr.ok_of (X := ⟨Tryz.prog, tyT, [absurd224_c F], [], none⟩) (F := F) ⟨E_ok, okC (absurd224_ok F) (okN), mixed, goN, rvN⟩ (pl := testexpr_parser_binary_p) Tryz.func183 (by kernel_rfl) (fun x => by kernel_rfl)
def testexpr_parser_three (F : Nat)  (a0 : List (List UInt8)) (a1 : Tparser) : Option (Bool × Tparser) :=
 rq (decide (0 < (a0.length : Int))) (rq (decide (1 < (a0.length : Int))) (rq (decide (2 < (a0.length : Int))) ((testexpr_isBinary F (a0.getD 1 [])).bind fun x1 =>
 cond x1
 ((testexpr_parser_binary F (a0.getD 0 []) (a0.getD 1 []) (a0.getD 2 []) a1).bind fun x2 =>
 some (x2, a1))
 (cond ((a0.getD 1 []) == ([45, 97] : List UInt8))
 ((cond (!((a0.getD 0 []) == []))
 (some (!((a0.getD 2 []) == [])))
 (some false) : Option Bool).bind fun x3 =>
 some (x3, a1))
 (cond ((a0.getD 1 []) == ([45, 111] : List UInt8))
 ((cond (!((a0.getD 0 []) == []))
 (some true)
 (some (!((a0.getD 2 []) == []))) : Option Bool).bind fun x4 =>
 some (x4, a1))
 (cond ((a0.getD 0 []) == ([33] : List UInt8))
 (rq ((decide (1 ≤ (a0.length : Int))) && (decide ((a0.length : Int) ≤ (a0.length : Int)))) ((testexpr_parser_two F (sl a0 1 (a0.length : Int)) a1).bind fun x5 =>
 some (!x5.1, x5.2)))
 ((cond ((a0.getD 0 []) == ([40] : List UInt8))
 (some ((a0.getD 2 []) == ([41] : List UInt8)))
 (some false) : Option Bool).bind fun x6 =>
 cond x6
 (some (!((a0.getD 1 []) == []), a1))
 (some (false, { a1 with fusage := true })))))))))
def testexpr_parser_three_s : Shp := ⟨160, [.one (.ptr 0 0), .one (.dat (.lst .str))], [.cells 153 [.pk (.ext 5)]], [], ⟨.one (.dat .bool), [some (.cells 153 [.pk (.ext 5)])], [], []⟩, none, []⟩
def testexpr_parser_three_p : Plan := .seq [] none (.leaf) (.seq [] none (.draw [⟨true, 12, none⟩]) (.seq [] none (.seq [] none (.leaf) (.cond (.leaf) (.seq [] none (.leaf) (.cond (.seq [] none (.region [(6, ⟨[(33, .one (.dat .bool))], [none], [], []⟩, false)]) (.leaf)) (.seq [] none (.leaf) (.cond (.seq [] none (.region [(6, ⟨[(42, .one (.dat .bool))], [none], [], []⟩, false)]) (.leaf)) (.seq [] none (.leaf) (.cond (.leaf) (.seq [] none (.region [(6, ⟨[(57, .one (.dat .bool))], [none], [], []⟩, false)]) (.leaf)))))))))) (.leaf)))
def testexpr_parser_three_c (F : Nat) : Ctr E := ⟨testexpr_parser_three_s, fun (x : (List (List UInt8)) × Tparser) => testexpr_parser_three F x.1 x.2⟩
theorem testexpr_parser_three_ok (F : Nat) : (testexpr_parser_three_c F).Ok Tryz.prog := Ctr.ok_of (X := ⟨Tryz.prog, tyT, [testexpr_isBinary_c F, testexpr_parser_binary_c F, testexpr_parser_two_c F], [], none⟩) (F := F) ⟨E_ok, okC (testexpr_isBinary_ok F) (okC (testexpr_parser_binary_ok F) (okC (testexpr_parser_two_ok F) (okN))), mixed, goN, rvN⟩ (pl := testexpr_parser_three_p) Tryz.func160 (by kernel_rfl) (fun x => by kernel_rfl)
def testexpr_parser_take (F : Nat)  (a0 : Int) (a1 : Tparser) : Option ((List (List UInt8)) × Tparser) :=
 rq ((decide (0 ≤ a0)) && (decide (a0 ≤ (a1.frest.length : Int)))) (rq ((decide (0 ≤ a0)) && ((decide (a0 ≤ (a1.frest.length : Int))) && (decide ((a1.frest.length : Int) ≤ (a1.frest.length : Int))))) (some (sl a1.frest 0 a0, { a1 with frest := sl a1.frest a0 (a1.frest.length : Int) })))
def testexpr_parser_take_s : Shp := ⟨259, [.one (.ptr 0 0), .one (.dat (.int .i64))], [.cells 153 [.pk (.ext 5)]], [], ⟨.one (.dat (.lst .str)), [some (.cells 153 [.pk (.ext 5)])], [], []⟩, none, []⟩
def testexpr_parser_take_p : Plan := .leaf
def testexpr_parser_take_c (F : Nat) : Ctr E := ⟨testexpr_parser_take_s, fun (x : Int × Tparser) => testexpr_parser_take F x.1 x.2⟩
theorem testexpr_parser_take_ok (F : Nat) : (testexpr_parser_take_c F).Ok Tryz.prog := Ctr.ok_of (X := ⟨Tryz.prog, tyT, [], [], none⟩) (F := F) ⟨E_ok, okN, mixed, goN, rvN⟩ (pl := testexpr_parser_take_p) Tryz.func259 (by kernel_rfl) (fun x => by kernel_rfl)
def testexpr_parser_next (F : Nat)  (a0 : List UInt8) (a1 : Tparser) : Option (Bool × Tparser) :=
 (cond ((a1.frest.length : Int) == 0)
 (some true)
 (rq (decide (0 < (a1.frest.length : Int))) (some (!((a1.frest.getD 0 []) == a0)))) : Option Bool).bind fun x1 =>
 cond x1
 (some (false, a1))
 ((testexpr_parser_take F 1 a1).bind fun x2 =>
 some (true, x2.2))
def testexpr_parser_next_s : Shp := ⟨227, [.one (.ptr 0 0), .one (.dat .str)], [.cells 153 [.pk (.ext 5)]], [], ⟨.one (.dat .bool), [some (.cells 153 [.pk (.ext 5)])], [], []⟩, none, []⟩
def testexpr_parser_next_p : Plan := .seq [] none (.leaf) (.seq [] none (.seq [] none (.region [(16, ⟨[(20, .one (.dat .bool))], [none], [], []⟩, false)]) (.leaf)) (.leaf))
def testexpr_parser_next_c (F : Nat) : Ctr E := ⟨testexpr_parser_next_s, fun (x : (List UInt8) × Tparser) => testexpr_parser_next F x.1 x.2⟩
theorem testexpr_parser_next_ok (F : Nat) : (testexpr_parser_next_c F).Ok Tryz.prog := Ctr.ok_of (X := ⟨Tryz.prog, tyT, [testexpr_parser_take_c F], [], none⟩) (F := F) ⟨E_ok, okC (testexpr_parser_take_ok F) (okN), mixed, goN, rvN⟩ (pl := testexpr_parser_next_p) Tryz.func227 (by kernel_rfl) (fun x => by kernel_rfl)
def testexpr_parser_or_m (F : Nat) (r_testexpr_parser_or : Tparser → Option (Bool × Tparser)) (r_testexpr_parser_and : Tparser → Option (Bool × Tparser)) (r_testexpr_parser_not : Tparser → Option (Bool × Tparser)) (a0 : Tparser) : Option (Bool × Tparser) :=
 (r_testexpr_parser_and a0).bind fun x1 =>
 loopF (σ := Bool × Tparser) (R := Bool × Tparser) (fun rc3 x2 =>
 (testexpr_parser_next F ([45, 111] : List UInt8) x2.2).bind fun x4 =>
 cond x4.1
 ((r_testexpr_parser_and x4.2).bind fun x5 =>
 (cond x2.1
 (some true)
 (some x5.1) : Option Bool).bind fun x6 =>
 rc3 (x6, x5.2))
 (some (x2.1, x4.2))) F (x1.1, x1.2)
def testexpr_parser_or_s : Shp := ⟨184, [.one (.ptr 0 0)], [.cells 153 [.pk (.ext 5)]], [], ⟨.one (.dat .bool), [some (.cells 153 [.pk (.ext 5)])], [], []⟩, none, []⟩
def testexpr_parser_or_p : Plan := .seq [] none (.leaf) (.seq [] none (.leaf) (.seq [] none (.loop [] ⟨[(3, .one (.dat .bool))], [some (.cells 153 [.pk (.ext 5)])], [], []⟩ (.seq [] none (.leaf) (.seq [] none (.leaf) (.region [(4, ⟨[(14, .one (.dat .bool))], [none], [], []⟩, false)])))) (.leaf)))
def testexpr_parser_and_m (F : Nat) (r_testexpr_parser_or : Tparser → Option (Bool × Tparser)) (r_testexpr_parser_and : Tparser → Option (Bool × Tparser)) (r_testexpr_parser_not : Tparser → Option (Bool × Tparser)) (a0 : Tparser) : Option (Bool × Tparser) :=
 (r_testexpr_parser_not a0).bind fun x1 =>
 loopF (σ := Bool × Tparser) (R := Bool × Tparser) (fun rc3 x2 =>
 (testexpr_parser_next F ([45, 97] : List UInt8) x2.2).bind fun x4 =>
 cond x4.1
 ((r_testexpr_parser_not x4.2).bind fun x5 =>
 (cond x2.1
 (some x5.1)
 (some false) : Option Bool).bind fun x6 =>
 rc3 (x6, x5.2))
 (some (x2.1, x4.2))) F (x1.1, x1.2)
def testexpr_parser_and_s : Shp := ⟨226, [.one (.ptr 0 0)], [.cells 153 [.pk (.ext 5)]], [], ⟨.one (.dat .bool), [some (.cells 153 [.pk (.ext 5)])], [], []⟩, none, []⟩
def testexpr_parser_and_p : Plan := .seq [] none (.leaf) (.seq [] none (.leaf) (.seq [] none (.loop [] ⟨[(3, .one (.dat .bool))], [some (.cells 153 [.pk (.ext 5)])], [], []⟩ (.seq [] none (.leaf) (.seq [] none (.leaf) (.region [(4, ⟨[(14, .one (.dat .bool))], [none], [], []⟩, false)])))) (.leaf)))
def testexpr_parser_not_m (F : Nat) (r_testexpr_parser_or : Tparser → Option (Bool × Tparser)) (r_testexpr_parser_and : Tparser → Option (Bool × Tparser)) (r_testexpr_parser_not : Tparser → Option (Bool × Tparser)) (a0 : Tparser) : Option (Bool × Tparser) :=
 loopF (σ := Bool × Tparser) (R := Bool × Tparser) (fun rc2 x1 =>
 cond ((x1.2.frest.length : Int) == 0)
 (some (false, { x1.2 with fusage := true }))
 ((cond (decide (3 ≤ (x1.2.frest.length : Int)))
 (rq (decide (1 < (x1.2.frest.length : Int))) ((testexpr_isBinary F (x1.2.frest.getD 1 [])).bind fun x4 =>
 some x4))
 (some false) : Option Bool).bind fun x3 =>
 cond x3
 ((testexpr_parser_take F 3 x1.2).bind fun x5 =>
 rq (decide (0 < (x5.1.length : Int))) (rq (decide (1 < (x5.1.length : Int))) (rq (decide (2 < (x5.1.length : Int))) ((testexpr_parser_binary F (x5.1.getD 0 []) (x5.1.getD 1 []) (x5.1.getD 2 []) x5.2).bind fun x6 =>
 some (!(x6 == x1.1), x5.2)))))
 ((cond (decide (2 ≤ (x1.2.frest.length : Int)))
 (rq (decide (0 < (x1.2.frest.length : Int))) (some ((x1.2.frest.getD 0 []) == ([33] : List UInt8))))
 (some false) : Option Bool).bind fun x7 =>
 cond x7
 ((testexpr_parser_take F 1 x1.2).bind fun x8 =>
 rc2 (!x1.1, x8.2))
 (rq (decide (0 < (x1.2.frest.length : Int))) (cond ((x1.2.frest.getD 0 []) == ([40] : List UInt8))
 ((testexpr_parser_take F 1 x1.2).bind fun x9 =>
 (r_testexpr_parser_or x9.2).bind fun x10 =>
 ((testexpr_parser_next F ([41] : List UInt8) x10.2).bind fun x12 =>
 cond (!x12.1)
 (some ({ x12.2 with fusage := true }))
 (some x12.2) : Option Tparser).bind fun x11 =>
 some (!(x10.1 == x1.1), x11))
 ((cond (decide (2 ≤ (x1.2.frest.length : Int)))
 (rq (decide (0 < (x1.2.frest.length : Int))) ((testexpr_isUnary F (x1.2.frest.getD 0 [])).bind fun x14 =>
 some x14))
 (some false) : Option Bool).bind fun x13 =>
 cond x13
 ((testexpr_parser_take F 2 x1.2).bind fun x15 =>
 rq (decide (0 < (x15.1.length : Int))) (rq (decide (1 < (x15.1.length : Int))) none))
 ((testexpr_parser_take F 1 x1.2).bind fun x16 =>
 rq (decide (0 < (x16.1.length : Int))) (some (!((!((x16.1.getD 0 []) == [])) == x1.1), x16.2))))))))) F (false, a0)
def testexpr_parser_not_s : Shp := ⟨258, [.one (.ptr 0 0)], [.cells 153 [.pk (.ext 5)]], [], ⟨.one (.dat .bool), [some (.cells 153 [.pk (.ext 5)])], [], []⟩, none, []⟩
def testexpr_parser_not_p : Plan := .seq [] none (.leaf) (.seq [] none (.leaf) (.loop [] ⟨[(3, .one (.dat .bool))], [some (.cells 153 [.pk (.ext 5)])], [], []⟩ (.seq [] none (.leaf) (.seq [] none (.seq [] none (.leaf) (.cond (.leaf) (.seq [] none (.region [(11, ⟨[(30, .one (.dat .bool))], [none], [], []⟩, false)]) (.cond (.seq [] none (.leaf) (.seq [] none (.drawP [] [] [⟨[(0, true), (1, true), (2, true), (3, true), (4, true), (5, true), (6, true), (7, true), (8, true), (9, true), (11, true), (10, false), (12, false), (13, false)], none⟩]) (.leaf))) (.seq [] none (.region [(11, ⟨[(57, .one (.dat .bool))], [none], [], []⟩, false)]) (.cond (.leaf) (.seq [] none (.leaf) (.cond (.seq [] none (.leaf) (.seq [] none (.leaf) (.seq [] (some (⟨[], [some (.cells 153 [.pk (.ext 5)])], [], []⟩, false)) (.leaf) (.leaf)))) (.seq [] none (.region [(11, ⟨[(94, .one (.dat .bool))], [none], [], []⟩, false)]) (.cond (.seq [] none (.leaf) (.seq [] none (.drawP [] [] [⟨[(0, true), (1, true), (2, true), (3, true), (4, true), (5, true), (6, true), (8, true), (7, false), (9, false), (10, false)], none⟩]) (.leaf))) (.leaf))))))))))) (.leaf)))))
def testexpr_parser_or_G (F : Nat) : Nat → (Tparser → Option (Bool × Tparser)) × (Tparser → Option (Bool × Tparser)) × (Tparser → Option (Bool × Tparser))
  | 0 => (fun _ => none, fun _ => none, fun _ => none)
  | n + 1 => (testexpr_parser_or_m F (testexpr_parser_or_G F n).1 (testexpr_parser_or_G F n).2.1 (testexpr_parser_or_G F n).2.2, testexpr_parser_and_m F (testexpr_parser_or_G F n).1 (testexpr_parser_or_G F n).2.1 (testexpr_parser_or_G F n).2.2, testexpr_parser_not_m F (testexpr_parser_or_G F n).1 (testexpr_parser_or_G F n).2.1 (testexpr_parser_or_G F n).2.2)
def testexpr_parser_or_n (F n : Nat) : Tparser → Option (Bool × Tparser) := (testexpr_parser_or_G F n).1
def testexpr_parser_and_n (F n : Nat) : Tparser → Option (Bool × Tparser) := (testexpr_parser_or_G F n).2.1
def testexpr_parser_not_n (F n : Nat) : Tparser → Option (Bool × Tparser) := (testexpr_parser_or_G F n).2.2
def testexpr_parser_or (F : Nat) (a0 : Tparser) : Option (Bool × Tparser) := testexpr_parser_or_n F F a0
def testexpr_parser_or_cn (F n : Nat) : Ctr E := ⟨testexpr_parser_or_s, fun (x : Tparser) => testexpr_parser_or_n F n x⟩
def testexpr_parser_or_c (F : Nat) : Ctr E := ⟨testexpr_parser_or_s, fun (x : Tparser) => testexpr_parser_or F x⟩
def testexpr_parser_and_cn (F n : Nat) : Ctr E := ⟨testexpr_parser_and_s, fun (x : Tparser) => testexpr_parser_and_n F n x⟩
def testexpr_parser_not_cn (F n : Nat) : Ctr E := ⟨testexpr_parser_not_s, fun (x : Tparser) => testexpr_parser_not_n F n x⟩
theorem testexpr_parser_or_st (F n : Nat) (h : (testexpr_parser_or_cn F n).Ok Tryz.prog ∧ (testexpr_parser_and_cn F n).Ok Tryz.prog ∧ (testexpr_parser_not_cn F n).Ok Tryz.prog) : (testexpr_parser_or_cn F (n + 1)).Ok Tryz.prog := Ctr.ok_of (X := ⟨Tryz.prog, tyT, [testexpr_parser_and_cn F n, testexpr_parser_next_c F], [], none⟩) (F := F) ⟨E_ok, okC h.2.1 (okC (testexpr_parser_next_ok F) (okN)), mixed, goN, rvN⟩ (pl := testexpr_parser_or_p) Tryz.func184 (by kernel_rfl) (fun x => by kernel_rfl)
theorem testexpr_parser_and_st (F n : Nat) (h : (testexpr_parser_or_cn F n).Ok Tryz.prog ∧ (testexpr_parser_and_cn F n).Ok Tryz.prog ∧ (testexpr_parser_not_cn F n).Ok Tryz.prog) : (testexpr_parser_and_cn F (n + 1)).Ok Tryz.prog := Ctr.ok_of (X := ⟨Tryz.prog, tyT, [testexpr_parser_not_cn F n, testexpr_parser_next_c F], [], none⟩) (F := F) ⟨E_ok, okC h.2.2 (okC (testexpr_parser_next_ok F) (okN)), mixed, goN, rvN⟩ (pl := testexpr_parser_and_p) Tryz.func226 (by kernel_rfl) (fun x => by kernel_rfl)
theorem testexpr_parser_not_st (F n : Nat) (h : (testexpr_parser_or_cn F n).Ok Tryz.prog ∧ (testexpr_parser_and_cn F n).Ok Tryz.prog ∧ (testexpr_parser_not_cn F n).Ok Tryz.prog) : (testexpr_parser_not_cn F (n + 1)).Ok Tryz.prog := Ctr.ok_of (X := ⟨Tryz.prog, tyT, [testexpr_isBinary_c F, testexpr_parser_take_c F, testexpr_parser_binary_c F, testexpr_parser_or_cn F n, testexpr_parser_next_c F, testexpr_isUnary_c F, absurd181_c F], [], none⟩) (F := F) ⟨E_ok, okC (testexpr_isBinary_ok F) (okC (testexpr_parser_take_ok F) (okC (testexpr_parser_binary_ok F) (okC h.1 (okC (testexpr_parser_next_ok F) (okC (testexpr_isUnary_ok F) (okC (absurd181_ok F) (okN))))))), mixed, goN, rvN⟩ (pl := testexpr_parser_not_p) Tryz.func258 (by kernel_rfl) (fun x => by kernel_rfl)
theorem testexpr_parser_or_okn (F : Nat) : ∀ n, (testexpr_parser_or_cn F n).Ok Tryz.prog ∧ (testexpr_parser_and_cn F n).Ok Tryz.prog ∧ (testexpr_parser_not_cn F n).Ok Tryz.prog
  | 0 => ⟨(fun x y h => nomatch (show none = some y from h)), (fun x y h => nomatch (show none = some y from h)), (fun x y h => nomatch (show none = some y from h))⟩
  | n + 1 => by
    have h := testexpr_parser_or_okn F n
    exact ⟨testexpr_parser_or_st F n h,
      testexpr_parser_and_st F n h,
      testexpr_parser_not_st F n h⟩
theorem testexpr_parser_or_ok (F : Nat) : (testexpr_parser_or_c F).Ok Tryz.prog := (testexpr_parser_or_okn F F).1
def testexpr_parser_general (F : Nat)  (a0 : List (List UInt8)) (a1 : Tparser) : Option (Bool × Tparser) :=
 (testexpr_parser_or F ({ a1 with frest := a0 })).bind fun x1 =>
 cond (decide (0 < (x1.2.frest.length : Int)))
 (some (x1.1, { x1.2 with fusage := true }))
 (some (x1.1, x1.2))
def testexpr_parser_general_s : Shp := ⟨161, [.one (.ptr 0 0), .one (.dat (.lst .str))], [.cells 153 [.pk (.ext 5)]], [], ⟨.one (.dat .bool), [some (.cells 153 [.pk (.ext 5)])], [], []⟩, none, []⟩
def testexpr_parser_general_p : Plan := .leaf
def testexpr_parser_general_c (F : Nat) : Ctr E := ⟨testexpr_parser_general_s, fun (x : (List (List UInt8)) × Tparser) => testexpr_parser_general F x.1 x.2⟩
theorem testexpr_parser_general_ok (F : Nat) : (testexpr_parser_general_c F).Ok Tryz.prog := Ctr.ok_of (X := ⟨Tryz.prog, tyT, [testexpr_parser_or_c F], [], none⟩) (F := F) ⟨E_ok, okC (testexpr_parser_or_ok F) (okN), mixed, goN, rvN⟩ (pl := testexpr_parser_general_p) Tryz.func161 (by kernel_rfl) (fun x => by kernel_rfl)
def testexpr_parser_whole (F : Nat)  (a0 : List (List UInt8)) (a1 : Tparser) : Option (Bool × Tparser) :=
 jj (σ := Unit) (R := Bool × Tparser) (cond ((a0.length : Int) == 0)
 (some (.inr (false, a1)))
 (cond ((a0.length : Int) == 1)
 (rq (decide (0 < (a0.length : Int))) (some (.inr (!((a0.getD 0 []) == []), a1))))
 (cond ((a0.length : Int) == 2)
 ((testexpr_parser_two F a0 a1).bind fun x2 =>
 some (.inr (x2.1, x2.2)))
 (cond ((a0.length : Int) == 3)
 ((testexpr_parser_three F a0 a1).bind fun x3 =>
 some (.inr (x3.1, x3.2)))
 (cond ((a0.length : Int) == 4)
 (rq (decide (0 < (a0.length : Int))) (cond ((a0.getD 0 []) == ([33] : List UInt8))
 (rq ((decide (1 ≤ (a0.length : Int))) && (decide ((a0.length : Int) ≤ (a0.length : Int)))) ((testexpr_parser_three F (sl a0 1 (a0.length : Int)) a1).bind fun x4 =>
 some (.inr (!x4.1, x4.2))))
 ((rq (decide (0 < (a0.length : Int))) (cond ((a0.getD 0 []) == ([40] : List UInt8))
 (rq (decide (3 < (a0.length : Int))) (some ((a0.getD 3 []) == ([41] : List UInt8))))
 (some false)) : Option Bool).bind fun x5 =>
 cond x5
 (rq (decide (3 ≤ (a0.length : Int))) ((testexpr_parser_two F (sl a0 1 3) a1).bind fun x6 =>
 some (.inr (x6.1, x6.2))))
 (some (.inl ())))))
 (some (.inl ()))))))) fun _ =>
 (testexpr_parser_general F a0 a1).bind fun x7 =>
 some (x7.1, x7.2)
def testexpr_parser_whole_s : Shp := ⟨128, [.one (.ptr 0 0), .one (.dat (.lst .str))], [.cells 153 [.pk (.ext 5)]], [], ⟨.one (.dat .bool), [some (.cells 153 [.pk (.ext 5)])], [], []⟩, none, []⟩
def testexpr_parser_whole_p : Plan := .seq [] none (.leaf) (.seq [] (some (⟨[], [none], [], []⟩, true)) (.seq [] none (.leaf) (.seq [] none (.leaf) (.cond (.leaf) (.seq [] none (.leaf) (.cond (.leaf) (.seq [] none (.leaf) (.cond (.leaf) (.seq [] none (.leaf) (.cond (.leaf) (.seq [] none (.leaf) (.cond (.seq [] none (.leaf) (.seq [] none (.region [(10, ⟨[(45, .one (.dat .bool))], [none], [], []⟩, false)]) (.leaf))) (.leaf)))))))))))) (.leaf))
def testexpr_parser_whole_c (F : Nat) : Ctr E := ⟨testexpr_parser_whole_s, fun (x : (List (List UInt8)) × Tparser) => testexpr_parser_whole F x.1 x.2⟩
theorem testexpr_parser_whole_ok (F : Nat) : (testexpr_parser_whole_c F).Ok Tryz.prog := Ctr.ok_of (X := ⟨Tryz.prog, tyT, [testexpr_parser_two_c F, testexpr_parser_three_c F, testexpr_parser_general_c F], [], none⟩) (F := F) ⟨E_ok, okC (testexpr_parser_two_ok F) (okC (testexpr_parser_three_ok F) (okC (testexpr_parser_general_ok F) (okN))), mixed, goN, rvN⟩ (pl := testexpr_parser_whole_p) Tryz.func128 (by kernel_rfl) (fun x => by kernel_rfl)
def testexpr_Eval (F : Nat)  (a0 : List (List UInt8)) (a1 : List TFile) (a2 : List UInt8) : Option (Bool × Int) :=
 (testexpr_parser_whole F a0 (Tparser.mk [] a1 a2 false false)).bind fun x1 =>
 cond x1.2.fusage
 (some (false, 27))
 (cond x1.2.finvalid
 (some (false, 1))
 (some (x1.1, 0)))
def testexpr_Eval_s : Shp := ⟨94, [.one (.dat (.lst .str)), .one (.dat (.lst (.ext 4))), .one (.dat .str)], [], [], ⟨.tup [.dat .bool, .dat (.int .i64)], [], [], []⟩, none, []⟩
def testexpr_Eval_p : Plan := .leaf
def testexpr_Eval_c (F : Nat) : Ctr E := ⟨testexpr_Eval_s, fun (x : (List (List UInt8)) × (List TFile) × (List UInt8)) => testexpr_Eval F x.1 x.2.1 x.2.2⟩
theorem testexpr_Eval_ok (F : Nat) : (testexpr_Eval_c F).Ok Tryz.prog := Ctr.ok_of (X := ⟨Tryz.prog, tyT, [testexpr_parser_whole_c F], [], none⟩) (F := F) ⟨E_ok, okC (testexpr_parser_whole_ok F) (okN), mixed, goN, rvN⟩ (pl := testexpr_Eval_p) Tryz.func94 (by kernel_rfl) (fun x => by kernel_rfl)
def util_engine_test (F : Nat)  (a0 : TUtil) (a1 : Twords) (a2 : TAinti648) (a3 : List Int) : Option (TUtil × Twords × TAinti648 × (List Int)) :=
 (cond (a0.fName == ([91] : List UInt8))
 (rq ((decide (0 ≤ w64 ((a1.foperands.length : Int) - 1))) && (decide (w64 ((a1.foperands.length : Int) - 1) ≤ (a1.foperands.length : Int)))) (some (sl a1.foperands 0 (w64 ((a1.foperands.length : Int) - 1)))))
 (some a1.foperands) : Option (List (List UInt8))).bind fun x1 =>
 (testexpr_Eval F x1 [] ([47] : List UInt8)).bind fun x2 =>
 cond (x2.2 != 0)
 ((util_engine_usage F a0 a1 a2 a3).bind fun x3 =>
 some (x3.1, x3.2.1, x3.2.2.1, x3.2.2.2))
 (cond x2.1
 ((util_engine_exit F 0 a0 a1 a2 a3).bind fun x4 =>
 some (x4.1, x4.2.1, x4.2.2.1, x4.2.2.2))
 ((util_engine_exit F 1 a0 a1 a2 a3).bind fun x5 =>
 some (x5.1, x5.2.1, x5.2.2.1, x5.2.2.2)))
def util_engine_test_s : Shp := ⟨58, [.one (.ptr 0 0)], [(bt0)], [(3, 1)], ⟨.tup [], [some (bt0)], [none], []⟩, none, []⟩
def util_engine_test_p : Plan := .seq [] none (.leaf) (.seq [] (some (⟨[(2, .one (.dat (.lst .str)))], [none], [none], []⟩, false)) (.leaf) (.leaf))
def util_engine_test_c (F : Nat) : Ctr E := ⟨util_engine_test_s, fun (x : TUtil × Twords × TAinti648 × (List Int)) => util_engine_test F x.1 x.2.1 x.2.2.1 x.2.2.2⟩
theorem util_engine_test_ok (F : Nat) : (util_engine_test_c F).Ok Tryz.prog := Ctr.ok_of (X := ⟨Tryz.prog, tyT, [testexpr_Eval_c F, util_engine_usage_c F, util_engine_exit_c F], [], none⟩) (F := F) ⟨E_ok, okC (testexpr_Eval_ok F) (okC (util_engine_usage_ok F) (okC (util_engine_exit_ok F) (okN))), mixed, goN, rvN⟩ (pl := util_engine_test_p) Tryz.func58 (by kernel_rfl) (fun x => by kernel_rfl)
def util_engine_ask (F : Nat)  (a0 : Int) (a1 : TReq) (a2 : TUtil) (a3 : Twords) (a4 : TAinti648) (a5 : List Int) : Option (TReq × Bool × TUtil × Twords × TAinti648 × (List Int)) :=
 some (a1, true, { a2 with fState := a0 }, a3, a4, a5)
def util_engine_ask_s : Shp := ⟨34, [.one (.ptr 0 0), .one (.dat (.int .i64)), .one (.dat (.ext 3))], [(bt0)], [(3, 1)], ⟨.tup [.dat (.ext 3), .dat .bool], [some (bt0)], [none], []⟩, none, []⟩
def util_engine_ask_p : Plan := .leaf
def util_engine_ask_c (F : Nat) : Ctr E := ⟨util_engine_ask_s, fun (x : Int × TReq × TUtil × Twords × TAinti648 × (List Int)) => util_engine_ask F x.1 x.2.1 x.2.2.1 x.2.2.2.1 x.2.2.2.2.1 x.2.2.2.2.2⟩
theorem util_engine_ask_ok (F : Nat) : (util_engine_ask_c F).Ok Tryz.prog := Ctr.ok_of (X := ⟨Tryz.prog, tyT, [], [], none⟩) (F := F) ⟨E_ok, okN, mixed, goN, rvN⟩ (pl := util_engine_ask_p) Tryz.func34 (by kernel_rfl) (fun x => by kernel_rfl)
def strconv_small (F : Nat)  (a0 : Int) : Option (List UInt8) :=
 cond (decide (a0 < 10))
 (rq ((decide (0 ≤ a0)) && ((decide (a0 ≤ w64 (a0 + 1))) && (decide (w64 (a0 + 1) ≤ (([48, 49, 50, 51, 52, 53, 54, 55, 56, 57, 97, 98, 99, 100, 101, 102, 103, 104, 105, 106, 107, 108, 109, 110, 111, 112, 113, 114, 115, 116, 117, 118, 119, 120, 121, 122] : List UInt8).length : Int))))) (some (sl ([48, 49, 50, 51, 52, 53, 54, 55, 56, 57, 97, 98, 99, 100, 101, 102, 103, 104, 105, 106, 107, 108, 109, 110, 111, 112, 113, 114, 115, 116, 117, 118, 119, 120, 121, 122] : List UInt8) a0 (w64 (a0 + 1)))))
 (rq ((decide (0 ≤ w64 (a0 * 2))) && ((decide (w64 (a0 * 2) ≤ w64 ((w64 (a0 * 2)) + 2))) && (decide (w64 ((w64 (a0 * 2)) + 2) ≤ (([48, 48, 48, 49, 48, 50, 48, 51, 48, 52, 48, 53, 48, 54, 48, 55, 48, 56, 48, 57, 49, 48, 49, 49, 49, 50, 49, 51, 49, 52, 49, 53, 49, 54, 49, 55, 49, 56, 49, 57, 50, 48, 50, 49, 50, 50, 50, 51, 50, 52, 50, 53, 50, 54, 50, 55, 50, 56, 50, 57, 51, 48, 51, 49, 51, 50, 51, 51, 51, 52, 51, 53, 51, 54, 51, 55, 51, 56, 51, 57, 52, 48, 52, 49, 52, 50, 52, 51, 52, 52, 52, 53, 52, 54, 52, 55, 52, 56, 52, 57, 53, 48, 53, 49, 53, 50, 53, 51, 53, 52, 53, 53, 53, 54, 53, 55, 53, 56, 53, 57, 54, 48, 54, 49, 54, 50, 54, 51, 54, 52, 54, 53, 54, 54, 54, 55, 54, 56, 54, 57, 55, 48, 55, 49, 55, 50, 55, 51, 55, 52, 55, 53, 55, 54, 55, 55, 55, 56, 55, 57, 56, 48, 56, 49, 56, 50, 56, 51, 56, 52, 56, 53, 56, 54, 56, 55, 56, 56, 56, 57, 57, 48, 57, 49, 57, 50, 57, 51, 57, 52, 57, 53, 57, 54, 57, 55, 57, 56, 57, 57] : List UInt8).length : Int))))) (some (sl ([48, 48, 48, 49, 48, 50, 48, 51, 48, 52, 48, 53, 48, 54, 48, 55, 48, 56, 48, 57, 49, 48, 49, 49, 49, 50, 49, 51, 49, 52, 49, 53, 49, 54, 49, 55, 49, 56, 49, 57, 50, 48, 50, 49, 50, 50, 50, 51, 50, 52, 50, 53, 50, 54, 50, 55, 50, 56, 50, 57, 51, 48, 51, 49, 51, 50, 51, 51, 51, 52, 51, 53, 51, 54, 51, 55, 51, 56, 51, 57, 52, 48, 52, 49, 52, 50, 52, 51, 52, 52, 52, 53, 52, 54, 52, 55, 52, 56, 52, 57, 53, 48, 53, 49, 53, 50, 53, 51, 53, 52, 53, 53, 53, 54, 53, 55, 53, 56, 53, 57, 54, 48, 54, 49, 54, 50, 54, 51, 54, 52, 54, 53, 54, 54, 54, 55, 54, 56, 54, 57, 55, 48, 55, 49, 55, 50, 55, 51, 55, 52, 55, 53, 55, 54, 55, 55, 55, 56, 55, 57, 56, 48, 56, 49, 56, 50, 56, 51, 56, 52, 56, 53, 56, 54, 56, 55, 56, 56, 56, 57, 57, 48, 57, 49, 57, 50, 57, 51, 57, 52, 57, 53, 57, 54, 57, 55, 57, 56, 57, 57] : List UInt8) (w64 (a0 * 2)) (w64 ((w64 (a0 * 2)) + 2)))))
def strconv_small_s : Shp := ⟨44, [.one (.dat (.int .i64))], [], [], ⟨.one (.dat .str), [], [], []⟩, none, []⟩
def strconv_small_p : Plan := .leaf
def strconv_small_c (F : Nat) : Ctr E := ⟨strconv_small_s, fun (x : Int) => strconv_small F x⟩
theorem strconv_small_ok (F : Nat) : (strconv_small_c F).Ok Tryz.prog := Ctr.ok_of (X := ⟨Tryz.prog, tyT, [], [], none⟩) (F := F) ⟨E_ok, okN, mixed, goN, rvN⟩ (pl := strconv_small_p) Tryz.func44 (by kernel_rfl) (fun x => by kernel_rfl)
def strconv_AppendUint (F : Nat)  (a0 : List Int) (a1 : Int) (a2 : Int) : Option (List Int) :=
 cond (a2 == 10)
 (cond (decide (a1 < 100))
 ((strconv_small F (w64 a1)).bind fun x1 =>
 rq ((decide (a0.length + (toInts x1).length ≤ 9223372036854775807)) && (decide ((a0.length + (toInts x1).length) * 1 ≤ 140737488355328))) (some (a0 ++ (toInts x1))))
 (none))
 (none)
def strconv_AppendUint_s : Shp := ⟨164, [.one (.gsl 0 (.int .u8)), .one (.dat (.int .u64)), .one (.dat (.int .i64))], [], [(5, 1)], ⟨.one (.gsl 0 (.int .u8)), [], [some (5, 1)], []⟩, none, []⟩
def strconv_AppendUint_p : Plan := .seq [] none (.leaf) (.seq [.slot 6 5 (.int .u8)] none (.leaf) (.leaf))
def strconv_AppendUint_c (F : Nat) : Ctr E := ⟨strconv_AppendUint_s, fun (x : (List Int) × Int × Int) => strconv_AppendUint F x.1 x.2.1 x.2.2⟩
theorem strconv_AppendUint_ok (F : Nat) : (strconv_AppendUint_c F).Ok Tryz.prog := Ctr.ok_of (X := ⟨Tryz.prog, tyT, [strconv_small_c F, absurd45_c F, absurd47_c F], [], none⟩) (F := F) ⟨E_ok, okC (strconv_small_ok F) (okC (absurd45_ok F) (okC (absurd47_ok F) (okN))), mixed, goN, rvN⟩ (pl := strconv_AppendUint_p) Tryz.func164 (by kernel_rfl) (fun x => by kernel_rfl)
def strconv_AppendInt_1 (F : Nat)  (a0 : List Int) (a1 : Int) (a2 : Int) : Option (List Int) :=
 (cond (decide (a1 < 0))
 (rq ((decide (a0.length + ([45] : List Int).length ≤ 9223372036854775807)) && (decide ((a0.length + ([45] : List Int).length) * 1 ≤ 140737488355328))) (some (a0 ++ ([45] : List Int), IntKind.wrap .u64 (0 - (IntKind.wrap .u64 a1)))))
 (some (a0, IntKind.wrap .u64 a1)) : Option ((List Int) × Int)).bind fun x1 =>
 (strconv_AppendUint F x1.1 x1.2 a2).bind fun x2 =>
 some x2
def strconv_AppendInt_1_s : Shp := ⟨131, [.one (.gsl 0 (.int .u8)), .one (.dat (.int .i64)), .one (.dat (.int .i64))], [], [(5, 1)], ⟨.one (.gsl 0 (.int .u8)), [], [some (5, 1)], []⟩, none, []⟩
def strconv_AppendInt_1_p : Plan := .seq [] none (.leaf) (.seq [] none (.leaf) (.seq [] (some (⟨[(0, .one (.gsl 0 (.int .u8))), (7, .one (.dat (.int .u64)))], [], [some (5, 1)], []⟩, false)) (.leaf) (.leaf)))
def strconv_AppendInt_1_c (F : Nat) : Ctr E := ⟨strconv_AppendInt_1_s, fun (x : (List Int) × Int × Int) => strconv_AppendInt_1 F x.1 x.2.1 x.2.2⟩
theorem strconv_AppendInt_1_ok (F : Nat) : (strconv_AppendInt_1_c F).Ok Tryz.prog := Ctr.ok_of (X := ⟨Tryz.prog, tyT, [strconv_AppendUint_c F], [], none⟩) (F := F) ⟨E_ok, okC (strconv_AppendUint_ok F) (okN), mixed, goN, rvN⟩ (pl := strconv_AppendInt_1_p) Tryz.func131 (by kernel_rfl) (fun x => by kernel_rfl)
def strconv_AppendInt (F : Nat)  (a0 : List Int) (a1 : Int) (a2 : Int) : Option (List Int) :=
 (strconv_AppendInt_1 F a0 a1 a2).bind fun x1 =>
 some x1
def strconv_AppendInt_s : Shp := ⟨98, [.one (.gsl 0 (.int .u8)), .one (.dat (.int .i64)), .one (.dat (.int .i64))], [], [(5, 1)], ⟨.one (.gsl 0 (.int .u8)), [], [some (5, 1)], []⟩, none, []⟩
def strconv_AppendInt_p : Plan := .leaf
def strconv_AppendInt_c (F : Nat) : Ctr E := ⟨strconv_AppendInt_s, fun (x : (List Int) × Int × Int) => strconv_AppendInt F x.1 x.2.1 x.2.2⟩
theorem strconv_AppendInt_ok (F : Nat) : (strconv_AppendInt_c F).Ok Tryz.prog := Ctr.ok_of (X := ⟨Tryz.prog, tyT, [strconv_AppendInt_1_c F], [], none⟩) (F := F) ⟨E_ok, okC (strconv_AppendInt_1_ok F) (okN), mixed, goN, rvN⟩ (pl := strconv_AppendInt_p) Tryz.func98 (by kernel_rfl) (fun x => by kernel_rfl)
def util_reason (F : Nat)  (a0 : Int) : Option (List UInt8) :=
 cond (a0 == 8)
 (some ([110, 111, 116, 32, 102, 111, 117, 110, 100] : List UInt8))
 (cond (a0 == 17)
 (some ([105, 115, 32, 97, 32, 100, 105, 114, 101, 99, 116, 111, 114, 121] : List UInt8))
 (cond (a0 == 18)
 (some ([110, 111, 116, 32, 97, 32, 100, 105, 114, 101, 99, 116, 111, 114, 121] : List UInt8))
 (cond (a0 == 9)
 (some ([101, 120, 105, 115, 116, 115] : List UInt8))
 (cond (a0 == 19)
 (some ([110, 111, 116, 32, 101, 109, 112, 116, 121] : List UInt8))
 (cond (a0 == 23)
 (some ([110, 111, 116, 32, 112, 101, 114, 109, 105, 116, 116, 101, 100] : List UInt8))
 (cond (a0 == 3)
 (some ([116, 111, 111, 32, 108, 111, 110, 103] : List UInt8))
 (cond (a0 == 21)
 (some ([110, 111, 32, 115, 117, 99, 104, 32, 112, 114, 111, 99, 101, 115, 115] : List UInt8))
 (some ([101, 114, 114, 111, 114] : List UInt8)))))))))
def util_reason_s : Shp := ⟨105, [.one (.dat (.int .i64))], [], [], ⟨.one (.dat .str), [], [], []⟩, none, []⟩
def util_reason_p : Plan := .leaf
def util_reason_c (F : Nat) : Ctr E := ⟨util_reason_s, fun (x : Int) => util_reason F x⟩
theorem util_reason_ok (F : Nat) : (util_reason_c F).Ok Tryz.prog := Ctr.ok_of (X := ⟨Tryz.prog, tyT, [], [], none⟩) (F := F) ⟨E_ok, okN, mixed, goN, rvN⟩ (pl := util_reason_p) Tryz.func105 (by kernel_rfl) (fun x => by kernel_rfl)
def util_engine_report (F : Nat)  (a0 : List UInt8) (a1 : Int) (a2 : Int) (a3 : TUtil) (a4 : Twords) (a5 : TAinti648) (a6 : List Int) : Option (TUtil × Twords × TAinti648 × (List Int)) :=
 rq (decide (a3.fName.length + ([58, 32] : List UInt8).length ≤ 9223372036854775807)) (rq (decide ((a3.fName ++ ([58, 32] : List UInt8)).length + a0.length ≤ 9223372036854775807)) (rq (decide (((a3.fName ++ ([58, 32] : List UInt8)) ++ a0).length + ([58, 32] : List UInt8).length ≤ 9223372036854775807)) ((util_reason F a1).bind fun x1 =>
 rq (decide ((((a3.fName ++ ([58, 32] : List UInt8)) ++ a0) ++ ([58, 32] : List UInt8)).length + x1.length ≤ 9223372036854775807)) (rq (decide (((((a3.fName ++ ([58, 32] : List UInt8)) ++ a0) ++ ([58, 32] : List UInt8)) ++ x1).length + ([10] : List UInt8).length ≤ 9223372036854775807)) ((util_engine_write F 2 (((((a3.fName ++ ([58, 32] : List UInt8)) ++ a0) ++ ([58, 32] : List UInt8)) ++ x1) ++ ([10] : List UInt8)) a2 a3 a4 a5 a6).bind fun x2 =>
 some (x2.1, x2.2.1, x2.2.2.1, x2.2.2.2))))))
def util_engine_report_s : Shp := ⟨65, [.one (.ptr 0 0), .one (.dat .str), .one (.dat (.int .i64)), .one (.dat (.int .i64))], [(bt0)], [(3, 1)], ⟨.tup [], [some (bt0)], [none], []⟩, none, []⟩
def util_engine_report_p : Plan := .drawP [0] [15] [⟨[(0, true), (1, true), (2, true), (3, true), (4, true), (5, true), (6, true), (7, true), (8, true), (9, true), (10, true), (14, true), (11, false), (12, false), (13, false), (15, false)], none⟩]
def util_engine_report_c (F : Nat) : Ctr E := ⟨util_engine_report_s, fun (x : (List UInt8) × Int × Int × TUtil × Twords × TAinti648 × (List Int)) => util_engine_report F x.1 x.2.1 x.2.2.1 x.2.2.2.1 x.2.2.2.2.1 x.2.2.2.2.2.1 x.2.2.2.2.2.2⟩
theorem util_engine_report_ok (F : Nat) : (util_engine_report_c F).Ok Tryz.prog := Ctr.ok_of (X := ⟨Tryz.prog, tyT, [util_reason_c F, util_engine_write_c F], [], none⟩) (F := F) ⟨E_ok, okC (util_reason_ok F) (okC (util_engine_write_ok F) (okN)), mixed, goN, rvN⟩ (pl := util_engine_report_p) Tryz.func65 (by kernel_rfl) (fun x => by kernel_rfl)
def util_engine_fail (F : Nat)  (a0 : List UInt8) (a1 : Int) (a2 : Int) (a3 : TUtil) (a4 : Twords) (a5 : TAinti648) (a6 : List Int) : Option (TUtil × Twords × TAinti648 × (List Int)) :=
 (util_engine_report F a0 a1 a2 a3 a4 (a5.1, (a5.2.1, (1, a5.2.2.2))) a6).bind fun x1 =>
 some (x1.1, x1.2.1, x1.2.2.1, x1.2.2.2)
def util_engine_fail_s : Shp := ⟨63, [.one (.ptr 0 0), .one (.dat .str), .one (.dat (.int .i64)), .one (.dat (.int .i64))], [(bt0)], [(3, 1)], ⟨.tup [], [some (bt0)], [none], []⟩, none, []⟩
def util_engine_fail_p : Plan := .leaf
def util_engine_fail_c (F : Nat) : Ctr E := ⟨util_engine_fail_s, fun (x : (List UInt8) × Int × Int × TUtil × Twords × TAinti648 × (List Int)) => util_engine_fail F x.1 x.2.1 x.2.2.1 x.2.2.2.1 x.2.2.2.2.1 x.2.2.2.2.2.1 x.2.2.2.2.2.2⟩
theorem util_engine_fail_ok (F : Nat) : (util_engine_fail_c F).Ok Tryz.prog := Ctr.ok_of (X := ⟨Tryz.prog, tyT, [util_engine_report_c F], [], none⟩) (F := F) ⟨E_ok, okC (util_engine_report_ok F) (okN), mixed, goN, rvN⟩ (pl := util_engine_fail_p) Tryz.func63 (by kernel_rfl) (fun x => by kernel_rfl)
def util_engine_sequence (F : Nat)  (a0 : TUtil) (a1 : Twords) (a2 : TAinti648) (a3 : List Int) : Option (TUtil × Twords × TAinti648 × (List Int)) :=
 (cond ((a1.foperands.length : Int) == 2)
 (rq (decide (0 < (a1.foperands.length : Int))) ((util_integer F (a1.foperands.getD 0 [])).bind fun x2 =>
 some x2.1))
 (some 1) : Option Int).bind fun x1 =>
 rq ((decide (0 ≤ w64 ((a1.foperands.length : Int) - 1))) && (decide (w64 ((a1.foperands.length : Int) - 1) < (a1.foperands.length : Int)))) ((util_integer F (a1.foperands.getD (Int.toNat (w64 ((a1.foperands.length : Int) - 1))) [])).bind fun x3 =>
 loopF (σ := (List Int) × Int) (R := TUtil × Twords × TAinti648 × (List Int)) (fun rc5 x4 =>
 cond (decide (x4.2 ≤ x3.1))
 ((strconv_AppendInt F x4.1 x4.2 10).bind fun x6 =>
 rq ((decide (x6.length + ([10] : List Int).length ≤ 9223372036854775807)) && (decide ((x6.length + ([10] : List Int).length) * 1 ≤ 140737488355328))) (cond (decide (65536 < ((x6 ++ ([10] : List Int)).length : Int)))
 ((util_engine_fail F ([111, 117, 116, 112, 117, 116] : List UInt8) 3 3 a0 a1 a2 a3).bind fun x7 =>
 some (x7.1, x7.2.1, x7.2.2.1, x7.2.2.2))
 (rc5 (x6 ++ ([10] : List Int), w64 (x4.2 + 1)))))
 ((util_engine_write F 1 (toBytes x4.1) 3 a0 a1 a2 a3).bind fun x8 =>
 some (x8.1, x8.2.1, x8.2.2.1, x8.2.2.2))) F (([] : List Int), x1))
def util_engine_sequence_s : Shp := ⟨60, [.one (.ptr 0 0)], [(bt0)], [(3, 1)], ⟨.tup [], [some (bt0)], [none], []⟩, none, []⟩
def util_engine_sequence_p : Plan := .seq [] none (.leaf) (.seq [] (some (⟨[(2, .one (.dat (.int .i64)))], [none], [none], []⟩, false)) (.leaf) (.seq [] none (.draw [⟨true, 14, none⟩, ⟨false, 2, none⟩, ⟨true, 4, none⟩]) (.seq [] none (.leaf) (.seq [.slot 5 5 (.int .u8)] none (.seq [] none (.leaf) (.loop [] ⟨[(5, .one (.gsl 1 (.int .u8))), (6, .one (.dat (.int .i64)))], [none], [none, some (5, 1)], []⟩ (.leaf))) (.leaf)))))
def util_engine_sequence_c (F : Nat) : Ctr E := ⟨util_engine_sequence_s, fun (x : TUtil × Twords × TAinti648 × (List Int)) => util_engine_sequence F x.1 x.2.1 x.2.2.1 x.2.2.2⟩
theorem util_engine_sequence_ok (F : Nat) : (util_engine_sequence_c F).Ok Tryz.prog := Ctr.ok_of (X := ⟨Tryz.prog, tyT, [util_integer_c F, strconv_AppendInt_c F, util_engine_fail_c F, util_engine_write_c F], [], none⟩) (F := F) ⟨E_ok, okC (util_integer_ok F) (okC (strconv_AppendInt_ok F) (okC (util_engine_fail_ok F) (okC (util_engine_write_ok F) (okN)))), mixed, goN, rvN⟩ (pl := util_engine_sequence_p) Tryz.func60 (by kernel_rfl) (fun x => by kernel_rfl)
def chars_letter (F : Nat)  (a0 : Int) : Option Bool :=
 (cond (decide (65 ≤ a0))
 (some (decide (a0 ≤ 90)))
 (some false) : Option Bool).bind fun x1 =>
 (cond x1
 (some true)
 (cond (decide (97 ≤ a0))
 (some (decide (a0 ≤ 122)))
 (some false)) : Option Bool).bind fun x2 =>
 some x2
def chars_letter_s : Shp := ⟨134, [.one (.dat (.int .i32))], [], [], ⟨.one (.dat .bool), [], [], []⟩, none, []⟩
def chars_letter_p : Plan := .seq [] none (.leaf) (.seq [] none (.region [(6, ⟨[(8, .one (.dat .bool))], [], [], []⟩, false), (8, ⟨[(16, .one (.dat .bool))], [], [], []⟩, false)]) (.leaf))
def chars_letter_c (F : Nat) : Ctr E := ⟨chars_letter_s, fun (x : Int) => chars_letter F x⟩
theorem chars_letter_ok (F : Nat) : (chars_letter_c F).Ok Tryz.prog := Ctr.ok_of (X := ⟨Tryz.prog, tyT, [], [], none⟩) (F := F) ⟨E_ok, okN, mixed, goN, rvN⟩ (pl := chars_letter_p) Tryz.func134 (by kernel_rfl) (fun x => by kernel_rfl)
def chars_Name (F : Nat)  (a0 : List UInt8) : Option Bool :=
 (cond (decide ((a0.length : Int) < 1))
 (some true)
 (some (decide (32 < (a0.length : Int)))) : Option Bool).bind fun x1 =>
 cond x1
 (some false)
 (loopF (σ := (List UInt8) × Int) (R := Bool) (fun rc3 x2 =>
 cond (Nat.blt (Int.toNat x2.2) x2.1.length)
 (((chars_letter F ((dec x2.1 (Int.toNat x2.2)).1 : Int)).bind fun x5 =>
 cond x5
 (some true)
 (some (((dec x2.1 (Int.toNat x2.2)).1 : Int) == 95)) : Option Bool).bind fun x4 =>
 (cond x4
 (some true)
 ((chars_digit F ((dec x2.1 (Int.toNat x2.2)).1 : Int)).bind fun x7 =>
 cond x7
 (some (decide (0 < (((Int.toNat x2.2) : Nat) : Int))))
 (some false)) : Option Bool).bind fun x6 =>
 cond x6
 (rc3 (x2.1, ((((Int.toNat x2.2) + (dec x2.1 (Int.toNat x2.2)).2) : Nat) : Int)))
 (some false))
 (some true)) F (a0, ((0 : Nat) : Int)))
def chars_Name_s : Shp := ⟨101, [.one (.dat .str)], [], [], ⟨.one (.dat .bool), [], [], []⟩, none, []⟩
def chars_Name_p : Plan := .seq [] none (.leaf) (.seq [] none (.seq [] none (.region [(8, ⟨[(12, .one (.dat .bool))], [], [], []⟩, false)]) (.leaf)) (.seq [] none (.seq [] none (.leaf) (.loop [] ⟨[], [some (.iter)], [], []⟩ (.seq [] none (.leaf) (.seq [] none (.leaf) (.seq [] none (.leaf) (.seq [] none (.seq [] none (.region [(6, ⟨[(24, .one (.dat .bool))], [none], [], []⟩, false), (8, ⟨[(32, .one (.dat .bool))], [none], [], []⟩, false)]) (.leaf)) (.leaf))))))) (.leaf)))
def chars_Name_c (F : Nat) : Ctr E := ⟨chars_Name_s, fun (x : List UInt8) => chars_Name F x⟩
theorem chars_Name_ok (F : Nat) : (chars_Name_c F).Ok Tryz.prog := Ctr.ok_of (X := ⟨Tryz.prog, tyT, [chars_letter_c F, chars_digit_c F], [], none⟩) (F := F) ⟨E_ok, okC (chars_letter_ok F) (okC (chars_digit_ok F) (okN)), mixed, goN, rvN⟩ (pl := chars_Name_p) Tryz.func101 (by kernel_rfl) (fun x => by kernel_rfl)
def strings_HasPrefix (F : Nat)  (a0 : List UInt8) (a1 : List UInt8) : Option Bool :=
 (stringslite_HasPrefix F a0 a1).bind fun x1 =>
 some x1
def strings_HasPrefix_s : Shp := ⟨104, [.one (.dat .str), .one (.dat .str)], [], [], ⟨.one (.dat .bool), [], [], []⟩, none, []⟩
def strings_HasPrefix_p : Plan := .leaf
def strings_HasPrefix_c (F : Nat) : Ctr E := ⟨strings_HasPrefix_s, fun (x : (List UInt8) × (List UInt8)) => strings_HasPrefix F x.1 x.2⟩
theorem strings_HasPrefix_ok (F : Nat) : (strings_HasPrefix_c F).Ok Tryz.prog := Ctr.ok_of (X := ⟨Tryz.prog, tyT, [stringslite_HasPrefix_c F], [], none⟩) (F := F) ⟨E_ok, okC (stringslite_HasPrefix_ok F) (okN), mixed, goN, rvN⟩ (pl := strings_HasPrefix_p) Tryz.func104 (by kernel_rfl) (fun x => by kernel_rfl)
def util_engine_assigned_1 (F : Nat)  (a0 : List UInt8) (a1 : List UInt8) : Option Bool :=
 rq (decide (a1.length + ([61] : List UInt8).length ≤ 9223372036854775807)) ((strings_HasPrefix F a0 (a1 ++ ([61] : List UInt8))).bind fun x1 =>
 some x1)
def util_engine_assigned_1_s : Shp := ⟨103, [.one (.dat .str), .one (.ptr 0 0)], [.cells 9 [.dat .str]], [], ⟨.one (.dat .bool), [none], [], []⟩, none, []⟩
def util_engine_assigned_1_p : Plan := .leaf
def util_engine_assigned_1_c (F : Nat) : Ctr E := ⟨util_engine_assigned_1_s, fun (x : (List UInt8) × (List UInt8)) => util_engine_assigned_1 F x.1 x.2⟩
theorem util_engine_assigned_1_ok (F : Nat) : (util_engine_assigned_1_c F).Ok Tryz.prog := Ctr.ok_of (X := ⟨Tryz.prog, tyT, [strings_HasPrefix_c F], [], none⟩) (F := F) ⟨E_ok, okC (strings_HasPrefix_ok F) (okN), mixed, goN, rvN⟩ (pl := util_engine_assigned_1_p) Tryz.func103 (by kernel_rfl) (fun x => by kernel_rfl)
def slices_IndexFunc (F : Nat)  (a0 : List UInt8) (a1 : List (List UInt8)) : Option (Int × (List (List UInt8))) :=
 loopF (σ := Int × (List (List UInt8))) (R := Int × (List (List UInt8))) (fun rc2 x1 =>
 cond (decide (x1.1 < (a1.length : Int)))
 (rq ((decide (0 ≤ x1.1)) && (decide (x1.1 < (x1.2.length : Int)))) ((util_engine_assigned_1 F (x1.2.getD (Int.toNat x1.1) []) a0).bind fun x3 =>
 cond x3
 (some (x1.1, x1.2))
 (rc2 (w64 (x1.1 + 1), x1.2))))
 (some ((-1), x1.2))) F (0, a1)
def slices_IndexFunc_s : Shp := ⟨102, [.one (.gso 0), .one (.func 103 [(0, 0)])], [.cells 9 [.dat .str]], [(9, 1)], ⟨.one (.dat (.int .i64)), [none], [none], [(0, .str)]⟩, none, [(0, .str)]⟩
def slices_IndexFunc_p : Plan := .seq [] none (.leaf) (.seq [] none (.seq [] none (.leaf) (.loop [] ⟨[(8, .one (.dat (.int .i64)))], [none], [none], [(0, .str)]⟩ (.leaf))) (.leaf))
def slices_IndexFunc_c (F : Nat) : Ctr E := ⟨slices_IndexFunc_s, fun (x : (List UInt8) × (List (List UInt8))) => slices_IndexFunc F x.1 x.2⟩
theorem slices_IndexFunc_ok (F : Nat) : (slices_IndexFunc_c F).Ok Tryz.prog := Ctr.ok_of (X := ⟨Tryz.prog, tyT, [util_engine_assigned_1_c F], [], none⟩) (F := F) ⟨E_ok, okC (util_engine_assigned_1_ok F) (okN), mixed, goN, rvN⟩ (pl := slices_IndexFunc_p) Tryz.func102 (by kernel_rfl) (fun x => by kernel_rfl)
def util_engine_assigned (F : Nat)  (a0 : TUtil) (a1 : Twords) (a2 : TAinti648) (a3 : List Int) : Option ((List (List UInt8)) × (List (List UInt8))) :=
 (cloneF F a0.fEnv).bind fun x1 =>
 (loopF (σ := (List (List UInt8)) × (List (List UInt8))) (R := (List (List UInt8)) × (List (List UInt8))) (fun rc4 x3 =>
 cond (decide (0 < (x3.1.length : Int)))
 (rq (decide (0 < (x3.1.length : Int))) ((cutF F (x3.1.getD 0 []) ([61] : List UInt8)).bind fun x5 =>
 (cond (!x5.2.2)
 (some (true, x3.2))
 ((chars_Name F x5.1).bind fun x7 =>
 some (!x7, x3.2)) : Option (Bool × (List (List UInt8)))).bind fun x6 =>
 cond x6.1
 (some (x3.1, x6.2))
 ((slices_IndexFunc F x5.1 x6.2).bind fun x8 =>
 cond (decide (x8.1 < 0))
 (rq (decide (0 < (x3.1.length : Int))) (rq ((decide (x8.2.length + ([x3.1.getD 0 []] : List (List UInt8)).length ≤ 9223372036854775807)) && (decide ((x8.2.length + ([x3.1.getD 0 []] : List (List UInt8)).length) * 16 ≤ 140737488355328))) (rq ((decide (1 ≤ (x3.1.length : Int))) && (decide ((x3.1.length : Int) ≤ (x3.1.length : Int)))) (rc4 (sl x3.1 1 (x3.1.length : Int), x8.2 ++ ([x3.1.getD 0 []] : List (List UInt8)))))))
 (rq (decide (0 < (x3.1.length : Int))) (rq ((decide (0 ≤ x8.1)) && (decide (x8.1 < (x8.2.length : Int)))) (rq ((decide (1 ≤ (x3.1.length : Int))) && (decide ((x3.1.length : Int) ≤ (x3.1.length : Int)))) (rc4 (sl x3.1 1 (x3.1.length : Int), x8.2.set (Int.toNat x8.1) (x3.1.getD 0 [])))))))))
 (some (x3.1, x3.2))) F (a1.foperands, x1) : Option ((List (List UInt8)) × (List (List UInt8)))).bind fun x2 =>
 ((cloneF F x2.1).bind fun x10 =>
 some (x10, x2.2) : Option ((List (List UInt8)) × (List (List UInt8)))).bind fun x9 =>
 some (x9.2, x9.1)
def util_engine_assigned_s : Shp := ⟨64, [.one (.ptr 0 0)], [(bt0)], [(3, 1)], ⟨.tup [.dat (.lst .str), .dat (.lst .str)], [none], [none], []⟩, none, []⟩
def util_engine_assigned_p : Plan := .seq [] none (.leaf) (.seq [] none (.drawP [0] [] [⟨[(0, true), (1, true), (2, true), (3, true), (4, true), (6, true), (7, true), (8, true), (9, true), (10, true), (5, false), (11, false), (12, false)], none⟩]) (.seq [] (some (⟨[(4, .one (.gso 1)), (5, .one (.dat (.lst .str)))], [none], [none, some (9, 1)], [(1, .str)]⟩, false)) (.loop [] ⟨[(4, .one (.gso 1)), (5, .one (.dat (.lst .str)))], [none], [none, some (9, 1)], [(1, .str)]⟩ (.seq [] none (.leaf) (.seq [] none (.leaf) (.seq [] none (.seq [] none (.region [(7, ⟨[(38, .one (.dat .bool))], [none, none], [none, none], [(1, .str)]⟩, false)]) (.leaf)) (.leaf))))) (.seq [] none (.region [(3, ⟨[(58, .one (.gso 1)), (60, .one (.dat (.lst .str)))], [none], [none, none], [(1, .str)]⟩, false)]) (.leaf))))
def util_engine_assigned_c (F : Nat) : Ctr E := ⟨util_engine_assigned_s, fun (x : TUtil × Twords × TAinti648 × (List Int)) => util_engine_assigned F x.1 x.2.1 x.2.2.1 x.2.2.2⟩
theorem util_engine_assigned_ok (F : Nat) : (util_engine_assigned_c F).Ok Tryz.prog := Ctr.ok_of (X := ⟨Tryz.prog, tyT, [slices_IndexFunc_c F, slicesCloneS_c F, stringsCut_c F, chars_Name_c F], [], none⟩) (F := F) ⟨E_ok, okC (slices_IndexFunc_ok F) (okC (slicesCloneS_ok F) (okC (stringsCut_ok F) (okC (chars_Name_ok F) (okN)))), mixed, goN, rvN⟩ (pl := util_engine_assigned_p) Tryz.func64 (by kernel_rfl) (fun x => by kernel_rfl)
def strings_Builder_copyCheck (F : Nat)  (a0 : Bool) (a1 : List Int) : Option (Bool × (List Int)) :=
 cond (!a0)
 ((neF F).bind fun _ =>
 some (true, a1))
 (cond (!a0)
 (none)
 (some (a0, a1)))
def strings_Builder_copyCheck_s : Shp := ⟨129, [.one (.ptr 0 0)], [(bt1)], [(5, 1)], ⟨.tup [], [some (bt1)], [none], []⟩, none, []⟩
def strings_Builder_copyCheck_p : Plan := .leaf
def strings_Builder_copyCheck_c (F : Nat) : Ctr E := ⟨strings_Builder_copyCheck_s, fun (x : Bool × (List Int)) => strings_Builder_copyCheck F x.1 x.2⟩
theorem strings_Builder_copyCheck_ok (F : Nat) : (strings_Builder_copyCheck_c F).Ok Tryz.prog := Ctr.ok_of (X := ⟨Tryz.prog, tyT, [noEscape_c F], [], none⟩) (F := F) ⟨E_ok, okC (noEscape_ok F) (okN), mixed, goN, rvN⟩ (pl := strings_Builder_copyCheck_p) Tryz.func129 (by kernel_rfl) (fun x => by kernel_rfl)
def strings_Builder_WriteString (F : Nat)  (a0 : List UInt8) (a1 : Bool) (a2 : List Int) : Option (Int × Bool × (List Int)) :=
 (strings_Builder_copyCheck F a1 a2).bind fun x1 =>
 rq ((decide (x1.2.length + (toInts a0).length ≤ 9223372036854775807)) && (decide ((x1.2.length + (toInts a0).length) * 1 ≤ 140737488355328))) (some ((a0.length : Int), x1.1, x1.2 ++ (toInts a0)))
def strings_Builder_WriteString_s : Shp := ⟨96, [.one (.ptr 0 0), .one (.dat .str)], [(bt1)], [(5, 1)], ⟨.tup [.dat (.int .i64), .nil .iface], [some (bt1)], [some (5, 1)], []⟩, none, []⟩
def strings_Builder_WriteString_p : Plan := .leaf
def strings_Builder_WriteString_c (F : Nat) : Ctr E := ⟨strings_Builder_WriteString_s, fun (x : (List UInt8) × Bool × (List Int)) => strings_Builder_WriteString F x.1 x.2.1 x.2.2⟩
theorem strings_Builder_WriteString_ok (F : Nat) : (strings_Builder_WriteString_c F).Ok Tryz.prog := Ctr.ok_of (X := ⟨Tryz.prog, tyT, [strings_Builder_copyCheck_c F], [], none⟩) (F := F) ⟨E_ok, okC (strings_Builder_copyCheck_ok F) (okN), mixed, goN, rvN⟩ (pl := strings_Builder_WriteString_p) Tryz.func96 (by kernel_rfl) (fun x => by kernel_rfl)
def strings_Builder_WriteByte (F : Nat)  (a0 : Int) (a1 : Bool) (a2 : List Int) : Option (Bool × (List Int)) :=
 (strings_Builder_copyCheck F a1 a2).bind fun x1 =>
 rq ((decide (x1.2.length + ([a0] : List Int).length ≤ 9223372036854775807)) && (decide ((x1.2.length + ([a0] : List Int).length) * 1 ≤ 140737488355328))) (some (x1.1, x1.2 ++ ([a0] : List Int)))
def strings_Builder_WriteByte_s : Shp := ⟨132, [.one (.ptr 0 0), .one (.dat (.int .u8))], [(bt1)], [(5, 1)], ⟨.one (.nil .iface), [some (bt1)], [some (5, 1)], []⟩, none, []⟩
def strings_Builder_WriteByte_p : Plan := .leaf
def strings_Builder_WriteByte_c (F : Nat) : Ctr E := ⟨strings_Builder_WriteByte_s, fun (x : Int × Bool × (List Int)) => strings_Builder_WriteByte F x.1 x.2.1 x.2.2⟩
theorem strings_Builder_WriteByte_ok (F : Nat) : (strings_Builder_WriteByte_c F).Ok Tryz.prog := Ctr.ok_of (X := ⟨Tryz.prog, tyT, [strings_Builder_copyCheck_c F], [], none⟩) (F := F) ⟨E_ok, okC (strings_Builder_copyCheck_ok F) (okN), mixed, goN, rvN⟩ (pl := strings_Builder_WriteByte_p) Tryz.func132 (by kernel_rfl) (fun x => by kernel_rfl)
def strings_Builder_String (F : Nat)  (a0 : Bool) (a1 : List Int) : Option (List UInt8) :=
 rq ((decide ((a1.length : Int) = (a1.length : Int))) && ((byteOk a1) && (decide (a1.length ≤ 9223372036854775807)))) (some (toBytes a1))
def strings_Builder_String_s : Shp := ⟨97, [.one (.ptr 0 0)], [(bt1)], [(5, 1)], ⟨.one (.dat .str), [none], [some (5, 1)], []⟩, none, []⟩
def strings_Builder_String_p : Plan := .seq [] none (.leaf) (.seq [] none (.draw [⟨true, 10, none⟩, ⟨false, 2, none⟩]) (.leaf))
def strings_Builder_String_c (F : Nat) : Ctr E := ⟨strings_Builder_String_s, fun (x : Bool × (List Int)) => strings_Builder_String F x.1 x.2⟩
theorem strings_Builder_String_ok (F : Nat) : (strings_Builder_String_c F).Ok Tryz.prog := Ctr.ok_of (X := ⟨Tryz.prog, tyT, [], [], none⟩) (F := F) ⟨E_ok, okN, mixed, goN, rvN⟩ (pl := strings_Builder_String_p) Tryz.func97 (by kernel_rfl) (fun x => by kernel_rfl)
def util_joined (F : Nat)  (a0 : List (List UInt8)) : Option (List UInt8) :=
 loopF (σ := Int × Bool × (List Int)) (R := List UInt8) (fun rc2 x1 =>
 cond (decide (x1.1 < (a0.length : Int)))
 (rq ((decide (0 ≤ x1.1)) && (decide (x1.1 < (a0.length : Int)))) ((strings_Builder_WriteString F (a0.getD (Int.toNat x1.1) []) x1.2.1 x1.2.2).bind fun x3 =>
 (strings_Builder_WriteByte F 10 x3.2.1 x3.2.2).bind fun x4 =>
 rc2 (w64 (x1.1 + 1), x4.1, x4.2)))
 ((strings_Builder_String F x1.2.1 x1.2.2).bind fun x5 =>
 some x5)) F (0, false, ([] : List Int))
def util_joined_s : Shp := ⟨99, [.one (.dat (.lst .str))], [], [], ⟨.one (.dat .str), [], [], []⟩, none, []⟩
def util_joined_p : Plan := .seq [] none (.leaf) (.seq [] none (.leaf) (.seq [.cell 0 1 5 (.int .u8)] none (.seq [] none (.leaf) (.loop [] ⟨[(8, .one (.dat (.int .i64)))], [some (bt1)], [some (5, 1)], []⟩ (.leaf))) (.leaf)))
def util_joined_c (F : Nat) : Ctr E := ⟨util_joined_s, fun (x : List (List UInt8)) => util_joined F x⟩
theorem util_joined_ok (F : Nat) : (util_joined_c F).Ok Tryz.prog := Ctr.ok_of (X := ⟨Tryz.prog, tyT, [strings_Builder_WriteString_c F, strings_Builder_WriteByte_c F, strings_Builder_String_c F], [], none⟩) (F := F) ⟨E_ok, okC (strings_Builder_WriteString_ok F) (okC (strings_Builder_WriteByte_ok F) (okC (strings_Builder_String_ok F) (okN))), mixed, goN, rvN⟩ (pl := util_joined_p) Tryz.func99 (by kernel_rfl) (fun x => by kernel_rfl)
def util_engine_environment (F : Nat)  (a0 : TUtil) (a1 : Twords) (a2 : TAinti648) (a3 : List Int) : Option (TUtil × Twords × TAinti648 × (List Int)) :=
 (util_engine_assigned F a0 a1 a2 a3).bind fun x1 =>
 cond ((x1.2.length : Int) == 0)
 ((util_joined F x1.1).bind fun x2 =>
 (util_engine_write F 1 x2 3 a0 a1 a2 a3).bind fun x3 =>
 some (x3.1, x3.2.1, x3.2.2.1, x3.2.2.2))
 (some ({ a0 with fState := 8 }, a1, a2, a3))
def util_engine_environment_s : Shp := ⟨61, [.one (.ptr 0 0)], [(bt0)], [(3, 1)], ⟨.tup [], [some (bt0)], [none], []⟩, none, []⟩
def util_engine_environment_p : Plan := .leaf
def util_engine_environment_c (F : Nat) : Ctr E := ⟨util_engine_environment_s, fun (x : TUtil × Twords × TAinti648 × (List Int)) => util_engine_environment F x.1 x.2.1 x.2.2.1 x.2.2.2⟩
theorem util_engine_environment_ok (F : Nat) : (util_engine_environment_c F).Ok Tryz.prog := Ctr.ok_of (X := ⟨Tryz.prog, tyT, [util_engine_assigned_c F, util_joined_c F, util_engine_write_c F], [], none⟩) (F := F) ⟨E_ok, okC (util_engine_assigned_ok F) (okC (util_joined_ok F) (okC (util_engine_write_ok F) (okN))), mixed, goN, rvN⟩ (pl := util_engine_environment_p) Tryz.func61 (by kernel_rfl) (fun x => by kernel_rfl)
def util_engine_move (F : Nat)  (a0 : Int) (a1 : TUtil) (a2 : Twords) (a3 : TAinti648) (a4 : List Int) : Option (TReq × Bool × TUtil × Twords × TAinti648 × (List Int)) :=
 some ((TReq.mk 0 0 0 0 0 0 0 0 [] [] [] []), false, { a1 with fState := a0 }, a2, a3, a4)
def util_engine_move_s : Shp := ⟨68, [.one (.ptr 0 0), .one (.dat (.int .i64))], [(bt0)], [(3, 1)], ⟨.tup [.dat (.ext 3), .dat .bool], [some (bt0)], [none], []⟩, none, []⟩
def util_engine_move_p : Plan := .leaf
def util_engine_move_c (F : Nat) : Ctr E := ⟨util_engine_move_s, fun (x : Int × TUtil × Twords × TAinti648 × (List Int)) => util_engine_move F x.1 x.2.1 x.2.2.1 x.2.2.2.1 x.2.2.2.2⟩
theorem util_engine_move_ok (F : Nat) : (util_engine_move_c F).Ok Tryz.prog := Ctr.ok_of (X := ⟨Tryz.prog, tyT, [], [], none⟩) (F := F) ⟨E_ok, okN, mixed, goN, rvN⟩ (pl := util_engine_move_p) Tryz.func68 (by kernel_rfl) (fun x => by kernel_rfl)
def util_engine_start (F : Nat)  (a0 : TUtil) (a1 : Twords) (a2 : TAinti648) (a3 : List Int) : Option (TReq × Bool × TUtil × Twords × TAinti648 × (List Int)) :=
 jj (σ := TUtil × Twords × TAinti648 × (List Int)) (R := TReq × Bool × TUtil × Twords × TAinti648 × (List Int)) (cond (a0.fName == ([104, 101, 97, 100] : List UInt8))
 (cond (a1.fcount == 0)
 ((util_engine_move F 3 a0 a1 (a2.1, (a2.2.1, (a2.2.2.1, (a2.2.2.2.1, (a2.2.2.2.2.1, (a2.2.2.2.2.2.1, (a1.fcount, a2.2.2.2.2.2.2.2))))))) a3).bind fun x2 =>
 some (.inr (x2.1, x2.2.1, x2.2.2.1, x2.2.2.2.1, x2.2.2.2.2.1, x2.2.2.2.2.2)))
 (some (.inl (a0, a1, (a2.1, (a2.2.1, (a2.2.2.1, (a2.2.2.2.1, (a2.2.2.2.2.1, (a2.2.2.2.2.2.1, (a1.fcount, a2.2.2.2.2.2.2.2))))))), a3))))
 (cond (a0.fName == ([116, 101, 101] : List UInt8))
 ((util_engine_move F 17 a0 a1 a2 a3).bind fun x3 =>
 some (.inr (x3.1, x3.2.1, x3.2.2.1, x3.2.2.2.1, x3.2.2.2.2.1, x3.2.2.2.2.2)))
 ((cond (a0.fName == ([116, 111, 117, 99, 104] : List UInt8))
 (some (a0.fName == ([116, 111, 117, 99, 104] : List UInt8)))
 (cond (a0.fName == ([114, 109] : List UInt8))
 (some (a0.fName == ([114, 109] : List UInt8)))
 (cond (a0.fName == ([109, 107, 100, 105, 114] : List UInt8))
 (some (a0.fName == ([109, 107, 100, 105, 114] : List UInt8)))
 (cond (a0.fName == ([114, 109, 100, 105, 114] : List UInt8))
 (some (a0.fName == ([114, 109, 100, 105, 114] : List UInt8)))
 (cond (a0.fName == ([108, 115] : List UInt8))
 (some (a0.fName == ([108, 115] : List UInt8)))
 (some (a0.fName == ([107, 105, 108, 108] : List UInt8))))))) : Option Bool).bind fun x4 =>
 cond x4
 ((util_engine_move F 19 a0 a1 a2 a3).bind fun x5 =>
 some (.inr (x5.1, x5.2.1, x5.2.2.1, x5.2.2.2.1, x5.2.2.2.2.1, x5.2.2.2.2.2)))
 (cond (a0.fName == ([109, 118] : List UInt8))
 (rq (decide (1 < (a1.foperands.length : Int))) ((util_engine_ask F 23 (TReq.mk 21 0 0 0 0 0 0 0 (a1.foperands.getD 1 []) [] [] []) a0 a1 a2 a3).bind fun x6 =>
 some (.inr (x6.1, x6.2.1, x6.2.2.1, x6.2.2.2.1, x6.2.2.2.2.1, x6.2.2.2.2.2))))
 (cond (a0.fName == ([99, 112] : List UInt8))
 (rq (decide (0 < (a1.foperands.length : Int))) ((util_engine_ask F 25 (TReq.mk 3 0 0 0 0 0 3 1 (a1.foperands.getD 0 []) [] [] []) a0 a1 a2 a3).bind fun x7 =>
 some (.inr (x7.1, x7.2.1, x7.2.2.1, x7.2.2.2.1, x7.2.2.2.2.1, x7.2.2.2.2.2))))
 ((cond (a0.fName == ([99, 97, 116] : List UInt8))
 (some (a0.fName == ([99, 97, 116] : List UInt8)))
 (cond (a0.fName == ([116, 97, 105, 108] : List UInt8))
 (some (a0.fName == ([116, 97, 105, 108] : List UInt8)))
 (cond (a0.fName == ([119, 99] : List UInt8))
 (some (a0.fName == ([119, 99] : List UInt8)))
 (cond (a0.fName == ([115, 111, 114, 116] : List UInt8))
 (some (a0.fName == ([115, 111, 114, 116] : List UInt8)))
 (cond (a0.fName == ([117, 110, 105, 113] : List UInt8))
 (some (a0.fName == ([117, 110, 105, 113] : List UInt8)))
 (cond (a0.fName == ([103, 114, 101, 112] : List UInt8))
 (some (a0.fName == ([103, 114, 101, 112] : List UInt8)))
 (some (a0.fName == ([114, 101, 118] : List UInt8)))))))) : Option Bool).bind fun x8 =>
 cond x8
 (some (.inl (a0, a1, a2, a3)))
 ((util_engine_move F 3 a0 a1 a2 a3).bind fun x9 =>
 some (.inr (x9.1, x9.2.1, x9.2.2.1, x9.2.2.2.1, x9.2.2.2.2.1, x9.2.2.2.2.2))))))))) fun x1 =>
 (util_engine_move F 10 x1.1 x1.2.1 x1.2.2.1 x1.2.2.2).bind fun x10 =>
 some (x10.1, x10.2.1, x10.2.2.1, x10.2.2.2.1, x10.2.2.2.2.1, x10.2.2.2.2.2)
def util_engine_start_s : Shp := ⟨62, [.one (.ptr 0 0)], [(bt0)], [(3, 1)], ⟨.tup [.dat (.ext 3), .dat .bool], [some (bt0)], [none], []⟩, none, []⟩
def util_engine_start_p : Plan := .seq [] none (.leaf) (.seq [] (some (⟨[], [some (bt0), none], [none], []⟩, true)) (.seq [] none (.leaf) (.seq [] none (.leaf) (.cond (.seq [] none (.draw [⟨true, 9, none⟩, ⟨false, 1, none⟩]) (.leaf)) (.seq [] none (.leaf) (.cond (.leaf) (.seq [] (some (⟨[(40, .one (.dat .bool))], [none, none], [none], []⟩, false)) (.leaf) (.cond (.leaf) (.seq [] none (.leaf) (.cond (.leaf) (.seq [] none (.leaf) (.cond (.leaf) (.seq [] (some (⟨[(79, .one (.dat .bool))], [none, none], [none], []⟩, false)) (.leaf) (.leaf))))))))))))) (.leaf))
def util_engine_start_c (F : Nat) : Ctr E := ⟨util_engine_start_s, fun (x : TUtil × Twords × TAinti648 × (List Int)) => util_engine_start F x.1 x.2.1 x.2.2.1 x.2.2.2⟩
theorem util_engine_start_ok (F : Nat) : (util_engine_start_c F).Ok Tryz.prog := Ctr.ok_of (X := ⟨Tryz.prog, tyT, [util_engine_move_c F, util_engine_ask_c F], [], none⟩) (F := F) ⟨E_ok, okC (util_engine_move_ok F) (okC (util_engine_ask_ok F) (okN)), mixed, goN, rvN⟩ (pl := util_engine_start_p) Tryz.func62 (by kernel_rfl) (fun x => by kernel_rfl)
def util_engine_begin (F : Nat)  (a0 : TUtil) (a1 : Twords) (a2 : TAinti648) (a3 : List Int) : Option (TReq × Bool × TUtil × Twords × TAinti648 × (List Int)) :=
 (cond a1.fbad
 (some true)
 ((util_engine_fits F (a1.foperands.length : Int) a0 a1 a2 a3).bind fun x2 =>
 some (!x2)) : Option Bool).bind fun x1 =>
 cond x1
 ((util_engine_usage F a0 a1 a2 a3).bind fun x3 =>
 some ((TReq.mk 0 0 0 0 0 0 0 0 [] [] [] []), false, x3.1, x3.2.1, x3.2.2.1, x3.2.2.2))
 (cond (a0.fName == ([116, 114, 117, 101] : List UInt8))
 ((util_engine_exit F 0 a0 a1 a2 a3).bind fun x4 =>
 some ((TReq.mk 0 0 0 0 0 0 0 0 [] [] [] []), false, x4.1, x4.2.1, x4.2.2.1, x4.2.2.2))
 (cond (a0.fName == ([102, 97, 108, 115, 101] : List UInt8))
 ((util_engine_exit F 1 a0 a1 a2 a3).bind fun x5 =>
 some ((TReq.mk 0 0 0 0 0 0 0 0 [] [] [] []), false, x5.1, x5.2.1, x5.2.2.1, x5.2.2.2))
 (cond (a0.fName == ([101, 99, 104, 111] : List UInt8))
 ((format_Echo F a1.foperands).bind fun x6 =>
 (util_engine_write F 1 x6 3 a0 a1 a2 a3).bind fun x7 =>
 some ((TReq.mk 0 0 0 0 0 0 0 0 [] [] [] []), false, x7.1, x7.2.1, x7.2.2.1, x7.2.2.2))
 (cond (a0.fName == ([112, 114, 105, 110, 116, 102] : List UInt8))
 (none)
 (cond (a0.fName == ([112, 119, 100] : List UInt8))
 ((util_engine_directory F a0 a1 a2 a3).bind fun x8 =>
 rq (decide (x8.length + ([10] : List UInt8).length ≤ 9223372036854775807)) ((util_engine_write F 1 (x8 ++ ([10] : List UInt8)) 3 a0 a1 a2 a3).bind fun x9 =>
 some ((TReq.mk 0 0 0 0 0 0 0 0 [] [] [] []), false, x9.1, x9.2.1, x9.2.2.1, x9.2.2.2)))
 ((cond (a0.fName == ([116, 101, 115, 116] : List UInt8))
 (some (a0.fName == ([116, 101, 115, 116] : List UInt8)))
 (some (a0.fName == ([91] : List UInt8))) : Option Bool).bind fun x10 =>
 cond x10
 ((util_engine_test F a0 a1 a2 a3).bind fun x11 =>
 some ((TReq.mk 0 0 0 0 0 0 0 0 [] [] [] []), false, x11.1, x11.2.1, x11.2.2.1, x11.2.2.2))
 (cond (a0.fName == ([121, 101, 115] : List UInt8))
 ((cond (decide (0 < (a1.foperands.length : Int)))
 ((joinF F a1.foperands ([32] : List UInt8)).bind fun x13 =>
 rq (decide (x13.length + ([10] : List UInt8).length ≤ 9223372036854775807)) (some ({ a0 with fBuf := x13 ++ ([10] : List UInt8) }, a1, a2, a3)))
 (some ({ a0 with fBuf := ([121, 10] : List UInt8) }, a1, a2, a3)) : Option (TUtil × Twords × TAinti648 × (List Int))).bind fun x12 =>
 (util_engine_write F 1 x12.1.fBuf 6 x12.1 x12.2.1 x12.2.2.1 x12.2.2.2).bind fun x14 =>
 some ((TReq.mk 0 0 0 0 0 0 0 0 [] [] [] []), false, x14.1, x14.2.1, x14.2.2.1, x14.2.2.2))
 (cond (a0.fName == ([115, 108, 101, 101, 112] : List UInt8))
 (rq (decide (0 < (a1.foperands.length : Int))) ((chars_Digits F (a1.foperands.getD 0 [])).bind fun x15 =>
 (util_engine_ask F 7 (TReq.mk 15 0 0 0 0 0 x15.1 0 [] [] [] []) a0 a1 a2 a3).bind fun x16 =>
 some (x16.1, x16.2.1, x16.2.2.1, x16.2.2.2.1, x16.2.2.2.2.1, x16.2.2.2.2.2)))
 (cond (a0.fName == ([115, 101, 113] : List UInt8))
 ((util_engine_sequence F a0 a1 a2 a3).bind fun x17 =>
 some ((TReq.mk 0 0 0 0 0 0 0 0 [] [] [] []), false, x17.1, x17.2.1, x17.2.2.1, x17.2.2.2))
 (cond (a0.fName == ([101, 110, 118] : List UInt8))
 ((util_engine_environment F a0 a1 a2 a3).bind fun x18 =>
 some ((TReq.mk 0 0 0 0 0 0 0 0 [] [] [] []), false, x18.1, x18.2.1, x18.2.2.1, x18.2.2.2))
 ((util_engine_start F a0 a1 a2 a3).bind fun x19 =>
 some (x19.1, x19.2.1, x19.2.2.1, x19.2.2.2.1, x19.2.2.2.2.1, x19.2.2.2.2.2))))))))))))
def util_engine_begin_s : Shp := ⟨33, [.one (.ptr 0 0)], [(bt0)], [(3, 1)], ⟨.tup [.dat (.ext 3), .dat .bool], [some (bt0)], [none], []⟩, none, []⟩
def util_engine_begin_p : Plan := .seq [] none (.leaf) (.seq [] none (.leaf) (.seq [] none (.seq [] none (.region [(11, ⟨[(26, .one (.dat .bool))], [none, none], [none], []⟩, false)]) (.leaf)) (.seq [] none (.seq [] none (.leaf) (.seq [] none (.leaf) (.cond (.leaf) (.seq [] none (.leaf) (.cond (.leaf) (.seq [] none (.leaf) (.cond (.leaf) (.seq [] none (.leaf) (.cond (.leaf) (.seq [] none (.leaf) (.cond (.leaf) (.seq [] (some (⟨[(89, .one (.dat .bool))], [none, none], [none], []⟩, false)) (.leaf) (.cond (.leaf) (.seq [] none (.leaf) (.cond (.seq [] none (.leaf) (.seq [] (some (⟨[], [some (bt0), none], [none], []⟩, false)) (.leaf) (.leaf))) (.leaf)))))))))))))))) (.leaf))))
def util_engine_begin_c (F : Nat) : Ctr E := ⟨util_engine_begin_s, fun (x : TUtil × Twords × TAinti648 × (List Int)) => util_engine_begin F x.1 x.2.1 x.2.2.1 x.2.2.2⟩
theorem util_engine_begin_ok (F : Nat) : (util_engine_begin_c F).Ok Tryz.prog := Ctr.ok_of (X := ⟨Tryz.prog, tyT, [util_engine_fits_c F, util_engine_usage_c F, util_engine_exit_c F, format_Echo_c F, util_engine_write_c F, absurd56_c F, util_engine_directory_c F, util_engine_test_c F, stringsJoin_c F, chars_Digits_c F, util_engine_ask_c F, util_engine_sequence_c F, util_engine_environment_c F, util_engine_start_c F], [], none⟩) (F := F) ⟨E_ok, okC (util_engine_fits_ok F) (okC (util_engine_usage_ok F) (okC (util_engine_exit_ok F) (okC (format_Echo_ok F) (okC (util_engine_write_ok F) (okC (absurd56_ok F) (okC (util_engine_directory_ok F) (okC (util_engine_test_ok F) (okC (stringsJoin_ok F) (okC (chars_Digits_ok F) (okC (util_engine_ask_ok F) (okC (util_engine_sequence_ok F) (okC (util_engine_environment_ok F) (okC (util_engine_start_ok F) (okN)))))))))))))), mixed, goN, rvN⟩ (pl := util_engine_begin_p) Tryz.func33 (by kernel_rfl) (fun x => by kernel_rfl)
def util_engine_written (F : Nat)  (a0 : TAns) (a1 : TUtil) (a2 : Twords) (a3 : TAinti648) (a4 : List Int) : Option (TUtil × Twords × TAinti648 × (List Int)) :=
 jj (σ := TUtil × Twords × TAinti648 × (List Int)) (R := TUtil × Twords × TAinti648 × (List Int)) ((cond (a0.fErr != 0)
 (some (a3.2.1 == 1))
 (some false) : Option Bool).bind fun x2 =>
 cond x2
 ((util_engine_exit F 1 ({ a1 with fOut := [] }) a2 a3 a4).bind fun x3 =>
 some (.inr (x3.1, x3.2.1, x3.2.2.1, x3.2.2.2)))
 (cond (a0.fErr != 0)
 ((cond (a3.2.1 != 2)
 (some (a1, a2, (a3.1, (a3.2.1, (1, a3.2.2.2))), a4))
 (some (a1, a2, a3, a4)) : Option (TUtil × Twords × TAinti648 × (List Int))).bind fun x4 =>
 some (.inl ({ x4.1 with fOut := [] }, x4.2.1, x4.2.2.1, x4.2.2.2)))
 (cond (decide (a0.fN < (a1.fOut.length : Int)))
 (rq ((decide (0 ≤ cond (decide (a0.fN < 0)) 0 a0.fN)) && ((decide (cond (decide (a0.fN < 0)) 0 a0.fN ≤ (a1.fOut.length : Int))) && (decide ((a1.fOut.length : Int) ≤ (a1.fOut.length : Int))))) (some (.inr ({ a1 with fState := 1, fOut := sl a1.fOut (cond (decide (a0.fN < 0)) 0 a0.fN) (a1.fOut.length : Int) }, a2, a3, a4))))
 (some (.inl (a1, a2, a3, a4)))))) fun x1 =>
 some ({ x1.1 with fState := x1.2.2.1.1, fOut := [] }, x1.2.1, x1.2.2.1, x1.2.2.2)
def util_engine_written_s : Shp := ⟨35, [.one (.ptr 0 0), .one (.dat (.ext 1))], [(bt0)], [(3, 1)], ⟨.tup [], [some (bt0)], [none], []⟩, none, []⟩
def util_engine_written_p : Plan := .seq [] none (.leaf) (.seq [] none (.leaf) (.seq [] (some (⟨[], [some (bt0), none], [none], []⟩, true)) (.seq [] none (.region [(7, ⟨[(17, .one (.dat .bool))], [none, none], [none], []⟩, false)]) (.cond (.leaf) (.seq [] none (.leaf) (.cond (.seq [] (some (⟨[], [some (bt0), none], [none], []⟩, false)) (.leaf) (.leaf)) (.seq [] none (.draw [⟨true, 10, none⟩]) (.cond (.seq [] none (.draw [⟨true, 13, none⟩, ⟨false, 1, none⟩]) (.leaf)) (.leaf))))))) (.leaf)))
def util_engine_written_c (F : Nat) : Ctr E := ⟨util_engine_written_s, fun (x : TAns × TUtil × Twords × TAinti648 × (List Int)) => util_engine_written F x.1 x.2.1 x.2.2.1 x.2.2.2.1 x.2.2.2.2⟩
theorem util_engine_written_ok (F : Nat) : (util_engine_written_c F).Ok Tryz.prog := Ctr.ok_of (X := ⟨Tryz.prog, tyT, [util_engine_exit_c F], [], none⟩) (F := F) ⟨E_ok, okC (util_engine_exit_ok F) (okN), mixed, goN, rvN⟩ (pl := util_engine_written_p) Tryz.func35 (by kernel_rfl) (fun x => by kernel_rfl)
def util_engine_result (F : Nat)  (a0 : List UInt8) (a1 : Int) (a2 : TUtil) (a3 : Twords) (a4 : TAinti648) (a5 : List Int) : Option (TUtil × Twords × TAinti648 × (List Int)) :=
 cond (a1 != 0)
 ((util_engine_fail F a0 a1 3 ({ a2 with fState := 3 }) a3 a4 a5).bind fun x1 =>
 some (x1.1, x1.2.1, x1.2.2.1, x1.2.2.2))
 (some ({ a2 with fState := 3 }, a3, a4, a5))
def util_engine_result_s : Shp := ⟨37, [.one (.ptr 0 0), .one (.dat .str), .one (.dat (.int .i64))], [(bt0)], [(3, 1)], ⟨.tup [], [some (bt0)], [none], []⟩, none, []⟩
def util_engine_result_p : Plan := .leaf
def util_engine_result_c (F : Nat) : Ctr E := ⟨util_engine_result_s, fun (x : (List UInt8) × Int × TUtil × Twords × TAinti648 × (List Int)) => util_engine_result F x.1 x.2.1 x.2.2.1 x.2.2.2.1 x.2.2.2.2.1 x.2.2.2.2.2⟩
theorem util_engine_result_ok (F : Nat) : (util_engine_result_c F).Ok Tryz.prog := Ctr.ok_of (X := ⟨Tryz.prog, tyT, [util_engine_fail_c F], [], none⟩) (F := F) ⟨E_ok, okC (util_engine_fail_ok F) (okN), mixed, goN, rvN⟩ (pl := util_engine_result_p) Tryz.func37 (by kernel_rfl) (fun x => by kernel_rfl)
def util_engine_exec (F : Nat)  (a0 : TAns) (a1 : TUtil) (a2 : Twords) (a3 : TAinti648) (a4 : List Int) : Option (TReq × Bool × TUtil × Twords × TAinti648 × (List Int)) :=
 (util_engine_assigned F a1 a2 a3 a4).bind fun x1 =>
 cond (a1.fState == 8)
 ((util_engine_ask F 9 (TReq.mk 8 0 0 0 0 0 0 0 [] [] x1.2 x1.1) a1 a2 a3 a4).bind fun x2 =>
 some (x2.1, x2.2.1, x2.2.2.1, x2.2.2.2.1, x2.2.2.2.2.1, x2.2.2.2.2.2))
 ((util_element F x1.2 0).bind fun x3 =>
 (util_engine_report F x3 a0.fErr 4 ({ a1 with fN := 127 }) a2 a3 a4).bind fun x4 =>
 some ((TReq.mk 0 0 0 0 0 0 0 0 [] [] [] []), false, x4.1, x4.2.1, x4.2.2.1, x4.2.2.2))
def util_engine_exec_s : Shp := ⟨39, [.one (.ptr 0 0), .one (.dat (.ext 1))], [(bt0)], [(3, 1)], ⟨.tup [.dat (.ext 3), .dat .bool], [some (bt0)], [none], []⟩, none, []⟩
def util_engine_exec_p : Plan := .seq [] none (.leaf) (.seq [] none (.leaf) (.seq [] none (.leaf) (.seq [] none (.leaf) (.seq [] none (.drawP [1] [] [⟨[(0, true), (1, true), (3, true), (4, true), (2, false), (5, false)], none⟩]) (.leaf)))))
def util_engine_exec_c (F : Nat) : Ctr E := ⟨util_engine_exec_s, fun (x : TAns × TUtil × Twords × TAinti648 × (List Int)) => util_engine_exec F x.1 x.2.1 x.2.2.1 x.2.2.2.1 x.2.2.2.2⟩
theorem util_engine_exec_ok (F : Nat) : (util_engine_exec_c F).Ok Tryz.prog := Ctr.ok_of (X := ⟨Tryz.prog, tyT, [util_engine_assigned_c F, util_engine_ask_c F, util_element_c F, util_engine_report_c F], [], none⟩) (F := F) ⟨E_ok, okC (util_engine_assigned_ok F) (okC (util_engine_ask_ok F) (okC (util_element_ok F) (okC (util_engine_report_ok F) (okN)))), mixed, goN, rvN⟩ (pl := util_engine_exec_p) Tryz.func39 (by kernel_rfl) (fun x => by kernel_rfl)
def util_engine_inputs (F : Nat)  (a0 : TUtil) (a1 : Twords) (a2 : TAinti648) (a3 : List Int) : Option (List (List UInt8)) :=
 (cond (a0.fName == ([116, 101, 101] : List UInt8))
 (some [])
 (cond (a0.fName == ([103, 114, 101, 112] : List UInt8))
 (rq ((decide (0 ≤ cond (decide (1 < (a1.foperands.length : Int))) 1 (a1.foperands.length : Int))) && ((decide (cond (decide (1 < (a1.foperands.length : Int))) 1 (a1.foperands.length : Int) ≤ (a1.foperands.length : Int))) && (decide ((a1.foperands.length : Int) ≤ (a1.foperands.length : Int))))) (some (sl a1.foperands (cond (decide (1 < (a1.foperands.length : Int))) 1 (a1.foperands.length : Int)) (a1.foperands.length : Int))))
 (some a1.foperands)) : Option (List (List UInt8))).bind fun x1 =>
 cond ((x1.length : Int) == 0)
 (some ([([45] : List UInt8)] : List (List UInt8)))
 (some x1)
def util_engine_inputs_s : Shp := ⟨66, [.one (.ptr 0 0)], [(bt0)], [(3, 1)], ⟨.one (.dat (.lst .str)), [none], [none], []⟩, none, []⟩
def util_engine_inputs_p : Plan := .seq [] none (.leaf) (.seq [] none (.leaf) (.seq [] (some (⟨[(3, .one (.dat (.lst .str)))], [none], [none], []⟩, false)) (.leaf) (.leaf)))
def util_engine_inputs_c (F : Nat) : Ctr E := ⟨util_engine_inputs_s, fun (x : TUtil × Twords × TAinti648 × (List Int)) => util_engine_inputs F x.1 x.2.1 x.2.2.1 x.2.2.2⟩
theorem util_engine_inputs_ok (F : Nat) : (util_engine_inputs_c F).Ok Tryz.prog := Ctr.ok_of (X := ⟨Tryz.prog, tyT, [], [], none⟩) (F := F) ⟨E_ok, okN, mixed, goN, rvN⟩ (pl := util_engine_inputs_p) Tryz.func66 (by kernel_rfl) (fun x => by kernel_rfl)
def util_lines (F : Nat)  (a0 : List UInt8) : Option (List (List UInt8)) :=
 (splitF F a0 ([10] : List UInt8)).bind fun x1 =>
 rq ((decide (0 ≤ w64 ((x1.length : Int) - 1))) && (decide (w64 ((x1.length : Int) - 1) < (x1.length : Int)))) (cond ((x1.getD (Int.toNat (w64 ((x1.length : Int) - 1))) []) == [])
 (rq ((decide (0 ≤ w64 ((x1.length : Int) - 1))) && (decide (w64 ((x1.length : Int) - 1) ≤ (x1.length : Int)))) (some (x1.take (Int.toNat (w64 ((x1.length : Int) - 1))))))
 (some x1))
def util_lines_s : Shp := ⟨106, [.one (.dat .str)], [], [], ⟨.one (.gso 0), [], [some (9, 1)], [(0, .str)]⟩, none, []⟩
def util_lines_p : Plan := .leaf
def util_lines_c (F : Nat) : Ctr E := ⟨util_lines_s, fun (x : List UInt8) => util_lines F x⟩
theorem util_lines_ok (F : Nat) : (util_lines_c F).Ok Tryz.prog := Ctr.ok_of (X := ⟨Tryz.prog, tyT, [stringsSplit_c F], [], none⟩) (F := F) ⟨E_ok, okC (stringsSplit_ok F) (okN), mixed, goN, rvN⟩ (pl := util_lines_p) Tryz.func106 (by kernel_rfl) (fun x => by kernel_rfl)
def util_engine_counts_1 (F : Nat)  (a0 : Int) (a1 : Int) (a2 : List (List UInt8)) (a3 : TUtil) (a4 : Twords) (a5 : TAinti648) (a6 : List Int) : Option (List (List UInt8)) :=
 (cond (a4.fletters == [])
 (some true)
 ((util_words_has F a4 a0).bind fun x2 =>
 some x2) : Option Bool).bind fun x1 =>
 cond x1
 ((itoaF F a1).bind fun x3 =>
 rq ((decide (a2.length + ([x3] : List (List UInt8)).length ≤ 9223372036854775807)) && (decide ((a2.length + ([x3] : List (List UInt8)).length) * 16 ≤ 140737488355328))) (some (a2 ++ ([x3] : List (List UInt8)))))
 (some a2)
def util_engine_counts_1_s : Shp := ⟨137, [.one (.dat (.int .u8)), .one (.dat (.int .i64)), .one (.ptr 0 0), .one (.ptr 1 0)], [.cells 54 [.ptr 2 0], .cells 22 [.gsl 0 .str], .cells 64 [.pk (.ext 0), .pk (.ext 2), .pk tAinti648, .gsl 1 (.int .i64)]], [(9, 1), (3, 1)], ⟨.tup [], [none, some (.cells 22 [.gsl 0 .str]), none], [some (9, 1), none], []⟩, none, []⟩
def util_engine_counts_1_p : Plan := .seq [] none (.region [(14, ⟨[(19, .one (.dat .bool))], [none, none, none], [none, none], []⟩, false)]) (.cond (.drawP [1] [5] [⟨[(0, true), (1, true), (2, false), (3, false), (4, false), (5, false)], none⟩]) (.leaf))
def util_engine_counts_1_c (F : Nat) : Ctr E := ⟨util_engine_counts_1_s, fun (x : Int × Int × (List (List UInt8)) × TUtil × Twords × TAinti648 × (List Int)) => util_engine_counts_1 F x.1 x.2.1 x.2.2.1 x.2.2.2.1 x.2.2.2.2.1 x.2.2.2.2.2.1 x.2.2.2.2.2.2⟩
theorem util_engine_counts_1_ok (F : Nat) : (util_engine_counts_1_c F).Ok Tryz.prog := Ctr.ok_of (X := ⟨Tryz.prog, tyT, [util_words_has_c F, strconvItoa_c F], [], none⟩) (F := F) ⟨E_ok, okC (util_words_has_ok F) (okC (strconvItoa_ok F) (okN)), mixed, goN, rvN⟩ (pl := util_engine_counts_1_p) Tryz.func137 (by kernel_rfl) (fun x => by kernel_rfl)
def util_engine_counts (F : Nat)  (a0 : TUtil) (a1 : Twords) (a2 : TAinti648) (a3 : List Int) : Option (List UInt8) :=
 loopF (σ := Int × Int × Bool × Int) (R := List UInt8) (fun rc2 x1 =>
 cond (decide (x1.2.2.2 < (a0.fBuf.length : Int)))
 (rq ((decide (0 ≤ x1.2.2.2)) && (decide (x1.2.2.2 < (a0.fBuf.length : Int)))) ((cond (((a0.fBuf.getD (Int.toNat x1.2.2.2) 0).toNat : Int) == 10)
 (some (w64 (x1.1 + 1)))
 (some x1.1) : Option Int).bind fun x3 =>
 (cond (decide (9 ≤ ((a0.fBuf.getD (Int.toNat x1.2.2.2) 0).toNat : Int)))
 (some (decide (((a0.fBuf.getD (Int.toNat x1.2.2.2) 0).toNat : Int) ≤ 13)))
 (some false) : Option Bool).bind fun x4 =>
 (cond x4
 (some true)
 (some (((a0.fBuf.getD (Int.toNat x1.2.2.2) 0).toNat : Int) == 32)) : Option Bool).bind fun x5 =>
 (cond (!x5)
 (some (!x1.2.2.1))
 (some false) : Option Bool).bind fun x6 =>
 cond x6
 (rc2 (x3, w64 (x1.2.1 + 1), !x5, w64 (x1.2.2.2 + 1)))
 (rc2 (x3, x1.2.1, !x5, w64 (x1.2.2.2 + 1)))))
 ((util_engine_counts_1 F 108 x1.1 ([] : List (List UInt8)) a0 a1 a2 a3).bind fun x7 =>
 (util_engine_counts_1 F 119 x1.2.1 x7 a0 a1 a2 a3).bind fun x8 =>
 (util_engine_counts_1 F 99 (a0.fBuf.length : Int) x8 a0 a1 a2 a3).bind fun x9 =>
 (joinF F x9 ([32] : List UInt8)).bind fun x10 =>
 some x10)) F (0, 0, false, 0)
def util_engine_counts_s : Shp := ⟨107, [.one (.ptr 0 0)], [(bt0)], [(3, 1)], ⟨.one (.dat .str), [none], [none], []⟩, none, []⟩
def util_engine_counts_p : Plan := .seq [] none (.leaf) (.seq [] none (.leaf) (.seq [] none (.seq [] none (.leaf) (.loop [] ⟨[(3, .one (.dat (.int .i64))), (4, .one (.dat (.int .i64))), (5, .one (.dat .bool)), (6, .one (.dat (.int .i64)))], [none, none], [none], []⟩ (.seq [] none (.leaf) (.seq [] none (.seq [] none (.leaf) (.seq [] (some (⟨[(3, .one (.dat (.int .i64)))], [none, none], [none], []⟩, false)) (.leaf) (.seq [] none (.region [(6, ⟨[(37, .one (.dat .bool))], [none, none], [none], []⟩, false), (4, ⟨[(41, .one (.dat .bool))], [none, none], [none], []⟩, false)]) (.seq [] none (.seq [] none (.region [(6, ⟨[(47, .one (.dat .bool))], [none, none], [none], []⟩, false)]) (.leaf)) (.leaf))))) (.leaf))))) (.seq [] none (.leaf) (.seq [] none (.leaf) (.seq [.cell 2 0 9 .str] none (.leaf) (.leaf))))))
def util_engine_counts_c (F : Nat) : Ctr E := ⟨util_engine_counts_s, fun (x : TUtil × Twords × TAinti648 × (List Int)) => util_engine_counts F x.1 x.2.1 x.2.2.1 x.2.2.2⟩
theorem util_engine_counts_ok (F : Nat) : (util_engine_counts_c F).Ok Tryz.prog := Ctr.ok_of (X := ⟨Tryz.prog, tyT, [util_engine_counts_1_c F, stringsJoin_c F], [], none⟩) (F := F) ⟨E_ok, okC (util_engine_counts_1_ok F) (okC (stringsJoin_ok F) (okN)), mixed, goN, rvN⟩ (pl := util_engine_counts_p) Tryz.func107 (by kernel_rfl) (fun x => by kernel_rfl)
def strings_trimLeftByte (F : Nat)  (a0 : List UInt8) (a1 : Int) : Option (List UInt8) :=
 loopF (σ := List UInt8) (R := List UInt8) (fun rc2 x1 =>
 (cond (decide (0 < (x1.length : Int)))
 (rq (decide (0 < (x1.length : Int))) (some (((x1.getD 0 0).toNat : Int) == a1)))
 (some false) : Option Bool).bind fun x3 =>
 cond x3
 (rq ((decide (1 ≤ (x1.length : Int))) && (decide ((x1.length : Int) ≤ (x1.length : Int)))) (rc2 (sl x1 1 (x1.length : Int))))
 (some x1)) F a0
def strings_trimLeftByte_s : Shp := ⟨203, [.one (.dat .str), .one (.dat (.int .u8))], [], [], ⟨.one (.dat .str), [], [], []⟩, none, []⟩
def strings_trimLeftByte_p : Plan := .seq [] none (.leaf) (.seq [] none (.loop [] ⟨[(0, .one (.dat .str))], [], [], []⟩ (.seq [] none (.seq [] none (.region [(9, ⟨[(13, .one (.dat .bool))], [], [], []⟩, false)]) (.leaf)) (.leaf))) (.leaf))
def strings_trimLeftByte_c (F : Nat) : Ctr E := ⟨strings_trimLeftByte_s, fun (x : (List UInt8) × Int) => strings_trimLeftByte F x.1 x.2⟩
theorem strings_trimLeftByte_ok (F : Nat) : (strings_trimLeftByte_c F).Ok Tryz.prog := Ctr.ok_of (X := ⟨Tryz.prog, tyT, [], [], none⟩) (F := F) ⟨E_ok, okN, mixed, goN, rvN⟩ (pl := strings_trimLeftByte_p) Tryz.func203 (by kernel_rfl) (fun x => by kernel_rfl)
def strings_TrimLeft (F : Nat)  (a0 : List UInt8) (a1 : List UInt8) : Option (List UInt8) :=
 (cond (a0 == [])
 (some true)
 (some (a1 == [])) : Option Bool).bind fun x1 =>
 cond x1
 (some a0)
 ((cond ((a1.length : Int) == 1)
 (rq (decide (0 < (a1.length : Int))) (some (decide (((a1.getD 0 0).toNat : Int) < 128))))
 (some false) : Option Bool).bind fun x2 =>
 cond x2
 (rq (decide (0 < (a1.length : Int))) ((strings_trimLeftByte F a0 ((a1.getD 0 0).toNat : Int)).bind fun x3 =>
 some x3))
 (none))
def strings_TrimLeft_s : Shp := ⟨171, [.one (.dat .str), .one (.dat .str)], [], [], ⟨.one (.dat .str), [], [], []⟩, none, []⟩
def strings_TrimLeft_p : Plan := .seq [] none (.leaf) (.seq [] none (.seq [] none (.region [(6, ⟨[(12, .one (.dat .bool))], [], [], []⟩, false)]) (.leaf)) (.seq [] none (.seq [] none (.region [(8, ⟨[(21, .one (.dat .bool))], [], [], []⟩, false)]) (.leaf)) (.leaf)))
def strings_TrimLeft_c (F : Nat) : Ctr E := ⟨strings_TrimLeft_s, fun (x : (List UInt8) × (List UInt8)) => strings_TrimLeft F x.1 x.2⟩
theorem strings_TrimLeft_ok (F : Nat) : (strings_TrimLeft_c F).Ok Tryz.prog := Ctr.ok_of (X := ⟨Tryz.prog, tyT, [strings_trimLeftByte_c F, absurd204_c F], [], none⟩) (F := F) ⟨E_ok, okC (strings_trimLeftByte_ok F) (okC (absurd204_ok F) (okN)), mixed, goN, rvN⟩ (pl := strings_TrimLeft_p) Tryz.func171 (by kernel_rfl) (fun x => by kernel_rfl)
def util_value (F : Nat)  (a0 : List UInt8) : Option Int :=
 (strings_TrimLeft F a0 ([32, 9] : List UInt8)).bind fun x1 =>
 (strings_CutPrefix F x1 ([45] : List UInt8)).bind fun x2 =>
 loopF (σ := Int × Int) (R := Int) (fun rc4 x3 =>
 (cond (decide (x3.2 < (x2.1.length : Int)))
 (some (decide (x3.2 < 9)))
 (some false) : Option Bool).bind fun x5 =>
 (cond x5
 (rq ((decide (0 ≤ x3.2)) && (decide (x3.2 < (x2.1.length : Int)))) (some (decide (48 ≤ ((x2.1.getD (Int.toNat x3.2) 0).toNat : Int)))))
 (some false) : Option Bool).bind fun x6 =>
 (cond x6
 (rq ((decide (0 ≤ x3.2)) && (decide (x3.2 < (x2.1.length : Int)))) (some (decide (((x2.1.getD (Int.toNat x3.2) 0).toNat : Int) ≤ 57))))
 (some false) : Option Bool).bind fun x7 =>
 cond x7
 (rq ((decide (0 ≤ x3.2)) && (decide (x3.2 < (x2.1.length : Int)))) (rc4 (w64 ((w64 (x3.1 * 10)) + (w64 (IntKind.wrap .u8 (((x2.1.getD (Int.toNat x3.2) 0).toNat : Int) - 48)))), w64 (x3.2 + 1))))
 (cond x2.2
 (some (w64 (0 - x3.1)))
 (some x3.1))) F (0, 0)
def util_value_s : Shp := ⟨143, [.one (.dat .str)], [], [], ⟨.one (.dat (.int .i64)), [], [], []⟩, none, []⟩
def util_value_p : Plan := .seq [] none (.leaf) (.seq [] none (.leaf) (.seq [] none (.leaf) (.seq [] none (.seq [] none (.leaf) (.loop [] ⟨[(4, .one (.dat (.int .i64))), (5, .one (.dat (.int .i64)))], [], [], []⟩ (.seq [] none (.seq [] none (.region [(8, ⟨[(19, .one (.dat .bool))], [], [], []⟩, false), (6, ⟨[(25, .one (.dat .bool))], [], [], []⟩, false), (6, ⟨[(31, .one (.dat .bool))], [], [], []⟩, false)]) (.leaf)) (.leaf)))) (.leaf))))
def util_value_c (F : Nat) : Ctr E := ⟨util_value_s, fun (x : List UInt8) => util_value F x⟩
theorem util_value_ok (F : Nat) : (util_value_c F).Ok Tryz.prog := Ctr.ok_of (X := ⟨Tryz.prog, tyT, [strings_TrimLeft_c F, strings_CutPrefix_c F], [], none⟩) (F := F) ⟨E_ok, okC (strings_TrimLeft_ok F) (okC (strings_CutPrefix_ok F) (okN)), mixed, goN, rvN⟩ (pl := util_value_p) Tryz.func143 (by kernel_rfl) (fun x => by kernel_rfl)
def cmp_isNaN (F : Nat)  (a0 : Int) : Option Bool :=
 some (a0 != a0)
def cmp_isNaN_s : Shp := ⟨170, [.one (.dat (.int .i64))], [], [], ⟨.one (.dat .bool), [], [], []⟩, none, []⟩
def cmp_isNaN_p : Plan := .leaf
def cmp_isNaN_c (F : Nat) : Ctr E := ⟨cmp_isNaN_s, fun (x : Int) => cmp_isNaN F x⟩
theorem cmp_isNaN_ok (F : Nat) : (cmp_isNaN_c F).Ok Tryz.prog := Ctr.ok_of (X := ⟨Tryz.prog, tyT, [], [], none⟩) (F := F) ⟨E_ok, okN, mixed, goN, rvN⟩ (pl := cmp_isNaN_p) Tryz.func170 (by kernel_rfl) (fun x => by kernel_rfl)
def cmp_Compare (F : Nat)  (a0 : Int) (a1 : Int) : Option Int :=
 (cmp_isNaN F a0).bind fun x1 =>
 (cmp_isNaN F a1).bind fun x2 =>
 cond x1
 (cond x2
 (some 0)
 (some (-1)))
 (cond x2
 (some 1)
 (cond (decide (a0 < a1))
 (some (-1))
 (cond (decide (a1 < a0))
 (some 1)
 (some 0))))
def cmp_Compare_s : Shp := ⟨142, [.one (.dat (.int .i64)), .one (.dat (.int .i64))], [], [], ⟨.one (.dat (.int .i64)), [], [], []⟩, none, []⟩
def cmp_Compare_p : Plan := .leaf
def cmp_Compare_c (F : Nat) : Ctr E := ⟨cmp_Compare_s, fun (x : Int × Int) => cmp_Compare F x.1 x.2⟩
theorem cmp_Compare_ok (F : Nat) : (cmp_Compare_c F).Ok Tryz.prog := Ctr.ok_of (X := ⟨Tryz.prog, tyT, [cmp_isNaN_c F], [], none⟩) (F := F) ⟨E_ok, okC (cmp_isNaN_ok F) (okN), mixed, goN, rvN⟩ (pl := cmp_Compare_p) Tryz.func142 (by kernel_rfl) (fun x => by kernel_rfl)
def util_engine_sorted_1 (F : Nat)  (a0 : List UInt8) (a1 : List UInt8) : Option Int :=
 (util_value F a0).bind fun x1 =>
 (util_value F a1).bind fun x2 =>
 (cmp_Compare F x1 x2).bind fun x3 =>
 some x3
def util_engine_sorted_1_s : Shp := ⟨141, [.one (.dat .str), .one (.dat .str)], [], [], ⟨.one (.dat (.int .i64)), [], [], []⟩, none, []⟩
def util_engine_sorted_1_p : Plan := .leaf
def util_engine_sorted_1_c (F : Nat) : Ctr E := ⟨util_engine_sorted_1_s, fun (x : (List UInt8) × (List UInt8)) => util_engine_sorted_1 F x.1 x.2⟩
theorem util_engine_sorted_1_ok (F : Nat) : (util_engine_sorted_1_c F).Ok Tryz.prog := Ctr.ok_of (X := ⟨Tryz.prog, tyT, [util_value_c F, cmp_Compare_c F], [], none⟩) (F := F) ⟨E_ok, okC (util_value_ok F) (okC (cmp_Compare_ok F) (okN)), mixed, goN, rvN⟩ (pl := util_engine_sorted_1_p) Tryz.func141 (by kernel_rfl) (fun x => by kernel_rfl)
def slices_insertionSortCmpFunc (F : Nat)  (a0 : Int) (a1 : Int) (a2 : List (List UInt8)) : Option (List (List UInt8)) :=
 loopF (σ := Int × (List (List UInt8))) (R := List (List UInt8)) (fun rc2 x1 =>
 cond (decide (x1.1 < a1))
 (loopF (σ := Int × (List (List UInt8))) (R := List (List UInt8)) (fun rc4 x3 =>
 cond (decide (a0 < x3.1))
 (rq ((decide (0 ≤ x3.1)) && (decide (x3.1 < (x3.2.length : Int)))) (rq ((decide (0 ≤ w64 (x3.1 - 1))) && (decide (w64 (x3.1 - 1) < (x3.2.length : Int)))) ((util_engine_sorted_1 F (x3.2.getD (Int.toNat x3.1) []) (x3.2.getD (Int.toNat (w64 (x3.1 - 1))) [])).bind fun x5 =>
 cond (decide (x5 < 0))
 (rq ((decide (0 ≤ w64 (x3.1 - 1))) && (decide (w64 (x3.1 - 1) < (x3.2.length : Int)))) (rq ((decide (0 ≤ x3.1)) && (decide (x3.1 < (x3.2.length : Int)))) (rq ((decide (0 ≤ x3.1)) && (decide (x3.1 < (x3.2.length : Int)))) (rq ((decide (0 ≤ w64 (x3.1 - 1))) && (decide (w64 (x3.1 - 1) < ((x3.2.set (Int.toNat x3.1) (x3.2.getD (Int.toNat (w64 (x3.1 - 1))) [])).length : Int)))) (rc4 (w64 (x3.1 - 1), (x3.2.set (Int.toNat x3.1) (x3.2.getD (Int.toNat (w64 (x3.1 - 1))) [])).set (Int.toNat (w64 (x3.1 - 1))) (x3.2.getD (Int.toNat x3.1) [])))))))
 (rc2 (w64 (x1.1 + 1), x3.2)))))
 (rc2 (w64 (x1.1 + 1), x3.2))) F (x1.1, x1.2))
 (some x1.2)) F (w64 (a0 + 1), a2)
def slices_insertionSortCmpFunc_s : Shp := ⟨201, [.one (.gso 0), .one (.dat (.int .i64)), .one (.dat (.int .i64)), .one (.func 141 [])], [], [(9, 1)], ⟨.tup [], [], [none], [(0, .str)]⟩, none, [(0, .str)]⟩
def slices_insertionSortCmpFunc_p : Plan := .seq [] none (.leaf) (.loop [] ⟨[(8, .one (.dat (.int .i64)))], [], [none], [(0, .str)]⟩ (.seq [] none (.leaf) (.seq [] none (.seq [] none (.leaf) (.loop [] ⟨[(9, .one (.dat (.int .i64)))], [], [none], [(0, .str)]⟩ (.seq [] none (.seq [] none (.draw [⟨true, 14, none⟩, ⟨false, 3, none⟩]) (.leaf)) (.seq [] none (.draw [⟨true, 15, none⟩, ⟨false, 3, none⟩]) (.leaf))))) (.leaf))))
def slices_insertionSortCmpFunc_c (F : Nat) : Ctr E := ⟨slices_insertionSortCmpFunc_s, fun (x : Int × Int × (List (List UInt8))) => slices_insertionSortCmpFunc F x.1 x.2.1 x.2.2⟩
theorem slices_insertionSortCmpFunc_ok (F : Nat) : (slices_insertionSortCmpFunc_c F).Ok Tryz.prog := Ctr.ok_of (X := ⟨Tryz.prog, tyT, [util_engine_sorted_1_c F], [], none⟩) (F := F) ⟨E_ok, okC (util_engine_sorted_1_ok F) (okN), mixed, goN, rvN⟩ (pl := slices_insertionSortCmpFunc_p) Tryz.func201 (by kernel_rfl) (fun x => by kernel_rfl)
def slices_swapRangeCmpFunc (F : Nat)  (a0 : Int) (a1 : Int) (a2 : Int) (a3 : List (List UInt8)) : Option (List (List UInt8)) :=
 loopF (σ := Int × (List (List UInt8))) (R := List (List UInt8)) (fun rc2 x1 =>
 cond (decide (x1.1 < a2))
 (rq ((decide (0 ≤ w64 (a1 + x1.1))) && (decide (w64 (a1 + x1.1) < (x1.2.length : Int)))) (rq ((decide (0 ≤ w64 (a0 + x1.1))) && (decide (w64 (a0 + x1.1) < (x1.2.length : Int)))) (rq ((decide (0 ≤ w64 (a0 + x1.1))) && (decide (w64 (a0 + x1.1) < (x1.2.length : Int)))) (rq ((decide (0 ≤ w64 (a1 + x1.1))) && (decide (w64 (a1 + x1.1) < ((x1.2.set (Int.toNat (w64 (a0 + x1.1))) (x1.2.getD (Int.toNat (w64 (a1 + x1.1))) [])).length : Int)))) (rc2 (w64 (x1.1 + 1), (x1.2.set (Int.toNat (w64 (a0 + x1.1))) (x1.2.getD (Int.toNat (w64 (a1 + x1.1))) [])).set (Int.toNat (w64 (a1 + x1.1))) (x1.2.getD (Int.toNat (w64 (a0 + x1.1))) [])))))))
 (some x1.2)) F (0, a3)
def slices_swapRangeCmpFunc_s : Shp := ⟨262, [.one (.gso 0), .one (.dat (.int .i64)), .one (.dat (.int .i64)), .one (.dat (.int .i64)), .one (.func 141 [])], [], [(9, 1)], ⟨.tup [], [], [none], [(0, .str)]⟩, none, [(0, .str)]⟩
def slices_swapRangeCmpFunc_p : Plan := .seq [] none (.leaf) (.loop [] ⟨[(10, .one (.dat (.int .i64)))], [], [none], [(0, .str)]⟩ (.seq [] none (.leaf) (.seq [] none (.draw [⟨true, 21, none⟩, ⟨false, 3, none⟩]) (.leaf))))
def slices_swapRangeCmpFunc_c (F : Nat) : Ctr E := ⟨slices_swapRangeCmpFunc_s, fun (x : Int × Int × Int × (List (List UInt8))) => slices_swapRangeCmpFunc F x.1 x.2.1 x.2.2.1 x.2.2.2⟩
theorem slices_swapRangeCmpFunc_ok (F : Nat) : (slices_swapRangeCmpFunc_c F).Ok Tryz.prog := Ctr.ok_of (X := ⟨Tryz.prog, tyT, [], [], none⟩) (F := F) ⟨E_ok, okN, mixed, goN, rvN⟩ (pl := slices_swapRangeCmpFunc_p) Tryz.func262 (by kernel_rfl) (fun x => by kernel_rfl)
def slices_rotateCmpFunc (F : Nat)  (a0 : Int) (a1 : Int) (a2 : Int) (a3 : List (List UInt8)) : Option (List (List UInt8)) :=
 loopF (σ := Int × Int × (List (List UInt8))) (R := List (List UInt8)) (fun rc2 x1 =>
 cond (x1.1 != x1.2.1)
 (cond (decide (x1.2.1 < x1.1))
 ((slices_swapRangeCmpFunc F (w64 (a1 - x1.1)) a1 x1.2.1 x1.2.2).bind fun x3 =>
 rc2 (w64 (x1.1 - x1.2.1), x1.2.1, x3))
 ((slices_swapRangeCmpFunc F (w64 (a1 - x1.1)) (w64 ((w64 (a1 + x1.2.1)) - x1.1)) x1.1 x1.2.2).bind fun x4 =>
 rc2 (x1.1, w64 (x1.2.1 - x1.1), x4)))
 ((slices_swapRangeCmpFunc F (w64 (a1 - x1.1)) a1 x1.1 x1.2.2).bind fun x5 =>
 some x5)) F (w64 (a1 - a0), w64 (a2 - a1), a3)
def slices_rotateCmpFunc_s : Shp := ⟨238, [.one (.gso 0), .one (.dat (.int .i64)), .one (.dat (.int .i64)), .one (.dat (.int .i64)), .one (.func 141 [])], [], [(9, 1)], ⟨.tup [], [], [none], [(0, .str)]⟩, none, [(0, .str)]⟩
def slices_rotateCmpFunc_p : Plan := .seq [] none (.leaf) (.seq [] none (.leaf) (.seq [] none (.loop [] ⟨[(10, .one (.dat (.int .i64))), (11, .one (.dat (.int .i64)))], [], [none], [(0, .str)]⟩ (.leaf)) (.leaf)))
def slices_rotateCmpFunc_c (F : Nat) : Ctr E := ⟨slices_rotateCmpFunc_s, fun (x : Int × Int × Int × (List (List UInt8))) => slices_rotateCmpFunc F x.1 x.2.1 x.2.2.1 x.2.2.2⟩
theorem slices_rotateCmpFunc_ok (F : Nat) : (slices_rotateCmpFunc_c F).Ok Tryz.prog := Ctr.ok_of (X := ⟨Tryz.prog, tyT, [slices_swapRangeCmpFunc_c F], [], none⟩) (F := F) ⟨E_ok, okC (slices_swapRangeCmpFunc_ok F) (okN), mixed, goN, rvN⟩ (pl := slices_rotateCmpFunc_p) Tryz.func238 (by kernel_rfl) (fun x => by kernel_rfl)
def slices_symMergeCmpFunc_m (F : Nat) (r_slices_symMergeCmpFunc : Int → Int → Int → (List (List UInt8)) → Option (List (List UInt8))) (a0 : Int) (a1 : Int) (a2 : Int) (a3 : List (List UInt8)) : Option (List (List UInt8)) :=
 cond ((w64 (a1 - a0)) == 1)
 (loopF (σ := Int × Int × (List (List UInt8))) (R := List (List UInt8)) (fun rc2 x1 =>
 cond (decide (x1.1 < x1.2.1))
 (rq ((decide (0 ≤ w64 (bShr .u64 (IntKind.wrap .u64 (w64 (x1.1 + x1.2.1))) 1))) && (decide (w64 (bShr .u64 (IntKind.wrap .u64 (w64 (x1.1 + x1.2.1))) 1) < (x1.2.2.length : Int)))) (rq ((decide (0 ≤ a0)) && (decide (a0 < (x1.2.2.length : Int)))) ((util_engine_sorted_1 F (x1.2.2.getD (Int.toNat (w64 (bShr .u64 (IntKind.wrap .u64 (w64 (x1.1 + x1.2.1))) 1))) []) (x1.2.2.getD (Int.toNat a0) [])).bind fun x3 =>
 cond (decide (x3 < 0))
 (rc2 (w64 ((w64 (bShr .u64 (IntKind.wrap .u64 (w64 (x1.1 + x1.2.1))) 1)) + 1), x1.2.1, x1.2.2))
 (rc2 (x1.1, w64 (bShr .u64 (IntKind.wrap .u64 (w64 (x1.1 + x1.2.1))) 1), x1.2.2)))))
 (loopF (σ := Int × (List (List UInt8))) (R := List (List UInt8)) (fun rc5 x4 =>
 cond (decide (x4.1 < w64 (x1.1 - 1)))
 (rq ((decide (0 ≤ w64 (x4.1 + 1))) && (decide (w64 (x4.1 + 1) < (x4.2.length : Int)))) (rq ((decide (0 ≤ x4.1)) && (decide (x4.1 < (x4.2.length : Int)))) (rq ((decide (0 ≤ x4.1)) && (decide (x4.1 < (x4.2.length : Int)))) (rq ((decide (0 ≤ w64 (x4.1 + 1))) && (decide (w64 (x4.1 + 1) < ((x4.2.set (Int.toNat x4.1) (x4.2.getD (Int.toNat (w64 (x4.1 + 1))) [])).length : Int)))) (rc5 (w64 (x4.1 + 1), (x4.2.set (Int.toNat x4.1) (x4.2.getD (Int.toNat (w64 (x4.1 + 1))) [])).set (Int.toNat (w64 (x4.1 + 1))) (x4.2.getD (Int.toNat x4.1) [])))))))
 (some x4.2)) F (a0, x1.2.2))) F (a1, a2, a3))
 (cond ((w64 (a2 - a1)) == 1)
 (loopF (σ := Int × Int × (List (List UInt8))) (R := List (List UInt8)) (fun rc7 x6 =>
 cond (decide (x6.1 < x6.2.1))
 (rq ((decide (0 ≤ a1)) && (decide (a1 < (x6.2.2.length : Int)))) (rq ((decide (0 ≤ w64 (bShr .u64 (IntKind.wrap .u64 (w64 (x6.1 + x6.2.1))) 1))) && (decide (w64 (bShr .u64 (IntKind.wrap .u64 (w64 (x6.1 + x6.2.1))) 1) < (x6.2.2.length : Int)))) ((util_engine_sorted_1 F (x6.2.2.getD (Int.toNat a1) []) (x6.2.2.getD (Int.toNat (w64 (bShr .u64 (IntKind.wrap .u64 (w64 (x6.1 + x6.2.1))) 1))) [])).bind fun x8 =>
 cond (!(decide (x8 < 0)))
 (rc7 (w64 ((w64 (bShr .u64 (IntKind.wrap .u64 (w64 (x6.1 + x6.2.1))) 1)) + 1), x6.2.1, x6.2.2))
 (rc7 (x6.1, w64 (bShr .u64 (IntKind.wrap .u64 (w64 (x6.1 + x6.2.1))) 1), x6.2.2)))))
 (loopF (σ := Int × (List (List UInt8))) (R := List (List UInt8)) (fun rc10 x9 =>
 cond (decide (x6.1 < x9.1))
 (rq ((decide (0 ≤ w64 (x9.1 - 1))) && (decide (w64 (x9.1 - 1) < (x9.2.length : Int)))) (rq ((decide (0 ≤ x9.1)) && (decide (x9.1 < (x9.2.length : Int)))) (rq ((decide (0 ≤ x9.1)) && (decide (x9.1 < (x9.2.length : Int)))) (rq ((decide (0 ≤ w64 (x9.1 - 1))) && (decide (w64 (x9.1 - 1) < ((x9.2.set (Int.toNat x9.1) (x9.2.getD (Int.toNat (w64 (x9.1 - 1))) [])).length : Int)))) (rc10 (w64 (x9.1 - 1), (x9.2.set (Int.toNat x9.1) (x9.2.getD (Int.toNat (w64 (x9.1 - 1))) [])).set (Int.toNat (w64 (x9.1 - 1))) (x9.2.getD (Int.toNat x9.1) [])))))))
 (some x9.2)) F (a1, x6.2.2))) F (a0, a1, a3))
 ((cond (decide (w64 (bShr .u64 (IntKind.wrap .u64 (w64 (a0 + a2))) 1) < a1))
 (some (w64 ((w64 ((w64 (bShr .u64 (IntKind.wrap .u64 (w64 (a0 + a2))) 1)) + a1)) - a2), w64 (bShr .u64 (IntKind.wrap .u64 (w64 (a0 + a2))) 1), a3))
 (some (a0, a1, a3)) : Option (Int × Int × (List (List UInt8)))).bind fun x11 =>
 loopF (σ := Int × Int × (List (List UInt8))) (R := List (List UInt8)) (fun rc13 x12 =>
 cond (decide (x12.1 < x12.2.1))
 (rq ((decide (0 ≤ w64 ((w64 ((w64 ((w64 (bShr .u64 (IntKind.wrap .u64 (w64 (a0 + a2))) 1)) + a1)) - 1)) - (w64 (bShr .u64 (IntKind.wrap .u64 (w64 (x12.1 + x12.2.1))) 1))))) && (decide (w64 ((w64 ((w64 ((w64 (bShr .u64 (IntKind.wrap .u64 (w64 (a0 + a2))) 1)) + a1)) - 1)) - (w64 (bShr .u64 (IntKind.wrap .u64 (w64 (x12.1 + x12.2.1))) 1))) < (x12.2.2.length : Int)))) (rq ((decide (0 ≤ w64 (bShr .u64 (IntKind.wrap .u64 (w64 (x12.1 + x12.2.1))) 1))) && (decide (w64 (bShr .u64 (IntKind.wrap .u64 (w64 (x12.1 + x12.2.1))) 1) < (x12.2.2.length : Int)))) ((util_engine_sorted_1 F (x12.2.2.getD (Int.toNat (w64 ((w64 ((w64 ((w64 (bShr .u64 (IntKind.wrap .u64 (w64 (a0 + a2))) 1)) + a1)) - 1)) - (w64 (bShr .u64 (IntKind.wrap .u64 (w64 (x12.1 + x12.2.1))) 1))))) []) (x12.2.2.getD (Int.toNat (w64 (bShr .u64 (IntKind.wrap .u64 (w64 (x12.1 + x12.2.1))) 1))) [])).bind fun x14 =>
 cond (!(decide (x14 < 0)))
 (rc13 (w64 ((w64 (bShr .u64 (IntKind.wrap .u64 (w64 (x12.1 + x12.2.1))) 1)) + 1), x12.2.1, x12.2.2))
 (rc13 (x12.1, w64 (bShr .u64 (IntKind.wrap .u64 (w64 (x12.1 + x12.2.1))) 1), x12.2.2)))))
 (((cond (decide (x12.1 < a1))
 (some (decide (a1 < w64 ((w64 ((w64 (bShr .u64 (IntKind.wrap .u64 (w64 (a0 + a2))) 1)) + a1)) - x12.1)), x12.2.2))
 (some (false, x12.2.2)) : Option (Bool × (List (List UInt8)))).bind fun x16 =>
 cond x16.1
 ((slices_rotateCmpFunc F x12.1 a1 (w64 ((w64 ((w64 (bShr .u64 (IntKind.wrap .u64 (w64 (a0 + a2))) 1)) + a1)) - x12.1)) x16.2).bind fun x17 =>
 some x17)
 (some x16.2) : Option (List (List UInt8))).bind fun x15 =>
 ((cond (decide (a0 < x12.1))
 (some (decide (x12.1 < w64 (bShr .u64 (IntKind.wrap .u64 (w64 (a0 + a2))) 1)), x15))
 (some (false, x15)) : Option (Bool × (List (List UInt8)))).bind fun x19 =>
 cond x19.1
 ((r_slices_symMergeCmpFunc a0 x12.1 (w64 (bShr .u64 (IntKind.wrap .u64 (w64 (a0 + a2))) 1)) x19.2).bind fun x20 =>
 some x20)
 (some x19.2) : Option (List (List UInt8))).bind fun x18 =>
 (cond (decide (w64 (bShr .u64 (IntKind.wrap .u64 (w64 (a0 + a2))) 1) < w64 ((w64 ((w64 (bShr .u64 (IntKind.wrap .u64 (w64 (a0 + a2))) 1)) + a1)) - x12.1)))
 (some (decide (w64 ((w64 ((w64 (bShr .u64 (IntKind.wrap .u64 (w64 (a0 + a2))) 1)) + a1)) - x12.1) < a2), x18))
 (some (false, x18)) : Option (Bool × (List (List UInt8)))).bind fun x21 =>
 cond x21.1
 ((r_slices_symMergeCmpFunc (w64 (bShr .u64 (IntKind.wrap .u64 (w64 (a0 + a2))) 1)) (w64 ((w64 ((w64 (bShr .u64 (IntKind.wrap .u64 (w64 (a0 + a2))) 1)) + a1)) - x12.1)) a2 x21.2).bind fun x22 =>
 some x22)
 (some x21.2))) F (x11.1, x11.2.1, x11.2.2)))
def slices_symMergeCmpFunc_s : Shp := ⟨202, [.one (.gso 0), .one (.dat (.int .i64)), .one (.dat (.int .i64)), .one (.dat (.int .i64)), .one (.func 141 [])], [], [(9, 1)], ⟨.tup [], [], [none], [(0, .str)]⟩, none, [(0, .str)]⟩
def slices_symMergeCmpFunc_p : Plan := .seq [] none (.seq [] none (.leaf) (.cond (.seq [] none (.leaf) (.seq [] none (.leaf) (.seq [] none (.loop [] ⟨[(10, .one (.dat (.int .i64))), (11, .one (.dat (.int .i64)))], [], [none], [(0, .str)]⟩ (.seq [] none (.leaf) (.seq [] none (.leaf) (.seq [] none (.draw [⟨true, 9, none⟩, ⟨false, 2, none⟩]) (.leaf))))) (.seq [] none (.seq [] none (.leaf) (.loop [] ⟨[(13, .one (.dat (.int .i64)))], [], [none], [(0, .str)]⟩ (.seq [] none (.leaf) (.seq [] none (.draw [⟨true, 15, none⟩, ⟨false, 3, none⟩]) (.leaf))))) (.leaf))))) (.leaf))) (.seq [] none (.seq [] none (.leaf) (.cond (.seq [] none (.leaf) (.seq [] none (.leaf) (.seq [] none (.loop [] ⟨[(14, .one (.dat (.int .i64))), (15, .one (.dat (.int .i64)))], [], [none], [(0, .str)]⟩ (.seq [] none (.leaf) (.seq [] none (.leaf) (.seq [] none (.draw [⟨true, 9, none⟩, ⟨false, 3, none⟩]) (.leaf))))) (.seq [] none (.seq [] none (.leaf) (.loop [] ⟨[(17, .one (.dat (.int .i64)))], [], [none], [(0, .str)]⟩ (.seq [] none (.leaf) (.seq [] none (.draw [⟨true, 15, none⟩, ⟨false, 3, none⟩]) (.leaf))))) (.leaf))))) (.leaf))) (.seq [] none (.leaf) (.seq [] none (.leaf) (.seq [] none (.leaf) (.seq [] (some (⟨[(20, .one (.dat (.int .i64))), (21, .one (.dat (.int .i64)))], [], [none], [(0, .str)]⟩, false)) (.leaf) (.seq [] none (.leaf) (.seq [] none (.loop [] ⟨[(20, .one (.dat (.int .i64))), (21, .one (.dat (.int .i64)))], [], [none], [(0, .str)]⟩ (.seq [] none (.leaf) (.seq [] none (.leaf) (.seq [] none (.draw [⟨true, 11, none⟩, ⟨false, 3, none⟩]) (.leaf))))) (.seq [] none (.leaf) (.seq [] (some (⟨[], [], [none], [(0, .str)]⟩, false)) (.seq [] none (.region [(8, ⟨[(185, .one (.dat .bool))], [], [none], [(0, .str)]⟩, false)]) (.leaf)) (.seq [] (some (⟨[], [], [none], [(0, .str)]⟩, false)) (.seq [] none (.region [(8, ⟨[(199, .one (.dat .bool))], [], [none], [(0, .str)]⟩, false)]) (.leaf)) (.seq [] none (.region [(8, ⟨[(213, .one (.dat .bool))], [], [none], [(0, .str)]⟩, false)]) (.leaf))))))))))))
def slices_symMergeCmpFunc_n (F : Nat) : Nat → Int → Int → Int → (List (List UInt8)) → Option (List (List UInt8))
  | 0 => fun _ _ _ _ => none
  | n + 1 => slices_symMergeCmpFunc_m F (slices_symMergeCmpFunc_n F n)
def slices_symMergeCmpFunc (F : Nat) (a0 : Int) (a1 : Int) (a2 : Int) (a3 : List (List UInt8)) : Option (List (List UInt8)) := slices_symMergeCmpFunc_n F F a0 a1 a2 a3
def slices_symMergeCmpFunc_cn (F n : Nat) : Ctr E := ⟨slices_symMergeCmpFunc_s, fun (x : Int × Int × Int × (List (List UInt8))) => slices_symMergeCmpFunc_n F n x.1 x.2.1 x.2.2.1 x.2.2.2⟩
def slices_symMergeCmpFunc_c (F : Nat) : Ctr E := ⟨slices_symMergeCmpFunc_s, fun (x : Int × Int × Int × (List (List UInt8))) => slices_symMergeCmpFunc F x.1 x.2.1 x.2.2.1 x.2.2.2⟩
theorem slices_symMergeCmpFunc_st (F n : Nat) (h : (slices_symMergeCmpFunc_cn F n).Ok Tryz.prog) : (slices_symMergeCmpFunc_cn F (n + 1)).Ok Tryz.prog := Ctr.ok_of (X := ⟨Tryz.prog, tyT, [slices_rotateCmpFunc_c F, slices_symMergeCmpFunc_cn F n, util_engine_sorted_1_c F], [], none⟩) (F := F) ⟨E_ok, okC (slices_rotateCmpFunc_ok F) (okC h (okC (util_engine_sorted_1_ok F) (okN))), mixed, goN, rvN⟩ (pl := slices_symMergeCmpFunc_p) Tryz.func202 (by kernel_rfl) (fun x => by kernel_rfl)
theorem slices_symMergeCmpFunc_okn (F : Nat) : ∀ n, (slices_symMergeCmpFunc_cn F n).Ok Tryz.prog
  | 0 => (fun x y h => nomatch (show none = some y from h))
  | n + 1 => by
    have h := slices_symMergeCmpFunc_okn F n
    exact slices_symMergeCmpFunc_st F n h
theorem slices_symMergeCmpFunc_ok (F : Nat) : (slices_symMergeCmpFunc_c F).Ok Tryz.prog := (slices_symMergeCmpFunc_okn F F)
def slices_stableCmpFunc (F : Nat)  (a0 : Int) (a1 : List (List UInt8)) : Option (List (List UInt8)) :=
 loopF (σ := Int × Int × (List (List UInt8))) (R := List (List UInt8)) (fun rc2 x1 =>
 cond (decide (x1.2.1 ≤ a0))
 ((slices_insertionSortCmpFunc F x1.1 x1.2.1 x1.2.2).bind fun x3 =>
 rc2 (x1.2.1, w64 (x1.2.1 + 20), x3))
 ((slices_insertionSortCmpFunc F x1.1 a0 x1.2.2).bind fun x4 =>
 loopF (σ := Int × (List (List UInt8))) (R := List (List UInt8)) (fun rc6 x5 =>
 cond (decide (x5.1 < a0))
 (loopF (σ := Int × Int × (List (List UInt8))) (R := List (List UInt8)) (fun rc8 x7 =>
 cond (decide (x7.2.1 ≤ a0))
 ((slices_symMergeCmpFunc F x7.1 (w64 (x7.1 + x5.1)) x7.2.1 x7.2.2).bind fun x9 =>
 rc8 (x7.2.1, w64 (x7.2.1 + (w64 (2 * x5.1))), x9))
 (cond (decide (w64 (x7.1 + x5.1) < a0))
 ((slices_symMergeCmpFunc F x7.1 (w64 (x7.1 + x5.1)) a0 x7.2.2).bind fun x10 =>
 rc6 (w64 (x5.1 * 2), x10))
 (rc6 (w64 (x5.1 * 2), x7.2.2)))) F (0, w64 (2 * x5.1), x5.2))
 (some x5.2)) F (20, x4))) F (0, 20, a1)
def slices_stableCmpFunc_s : Shp := ⟨169, [.one (.gso 0), .one (.dat (.int .i64)), .one (.func 141 [])], [], [(9, 1)], ⟨.tup [], [], [none], [(0, .str)]⟩, none, [(0, .str)]⟩
def slices_stableCmpFunc_p : Plan := .seq [] none (.leaf) (.seq [] none (.leaf) (.seq [] none (.loop [] ⟨[(7, .one (.dat (.int .i64))), (8, .one (.dat (.int .i64)))], [], [none], [(0, .str)]⟩ (.leaf)) (.seq [] none (.leaf) (.loop [] ⟨[(6, .one (.dat (.int .i64)))], [], [none], [(0, .str)]⟩ (.seq [] none (.leaf) (.seq [] none (.leaf) (.seq [] none (.loop [] ⟨[(7, .one (.dat (.int .i64))), (8, .one (.dat (.int .i64)))], [], [none], [(0, .str)]⟩ (.leaf)) (.leaf))))))))
def slices_stableCmpFunc_c (F : Nat) : Ctr E := ⟨slices_stableCmpFunc_s, fun (x : Int × (List (List UInt8))) => slices_stableCmpFunc F x.1 x.2⟩
theorem slices_stableCmpFunc_ok (F : Nat) : (slices_stableCmpFunc_c F).Ok Tryz.prog := Ctr.ok_of (X := ⟨Tryz.prog, tyT, [slices_insertionSortCmpFunc_c F, slices_symMergeCmpFunc_c F], [], none⟩) (F := F) ⟨E_ok, okC (slices_insertionSortCmpFunc_ok F) (okC (slices_symMergeCmpFunc_ok F) (okN)), mixed, goN, rvN⟩ (pl := slices_stableCmpFunc_p) Tryz.func169 (by kernel_rfl) (fun x => by kernel_rfl)
def slices_SortStableFunc (F : Nat)  (a0 : List (List UInt8)) : Option (List (List UInt8)) :=
 (slices_stableCmpFunc F (a0.length : Int) a0).bind fun x1 =>
 some x1
def slices_SortStableFunc_s : Shp := ⟨140, [.one (.gso 0), .one (.func 141 [])], [], [(9, 1)], ⟨.tup [], [], [none], [(0, .str)]⟩, none, [(0, .str)]⟩
def slices_SortStableFunc_p : Plan := .leaf
def slices_SortStableFunc_c (F : Nat) : Ctr E := ⟨slices_SortStableFunc_s, fun (x : List (List UInt8)) => slices_SortStableFunc F x⟩
theorem slices_SortStableFunc_ok (F : Nat) : (slices_SortStableFunc_c F).Ok Tryz.prog := Ctr.ok_of (X := ⟨Tryz.prog, tyT, [slices_stableCmpFunc_c F], [], none⟩) (F := F) ⟨E_ok, okC (slices_stableCmpFunc_ok F) (okN), mixed, goN, rvN⟩ (pl := slices_SortStableFunc_p) Tryz.func140 (by kernel_rfl) (fun x => by kernel_rfl)
def util_engine_sorted (F : Nat)  (a0 : TUtil) (a1 : Twords) (a2 : TAinti648) (a3 : List Int) : Option (List (List UInt8)) :=
 (util_lines F a0.fBuf).bind fun x1 =>
 (sortF F x1).bind fun x2 =>
 ((util_words_has F a1 117).bind fun x4 =>
 cond x4
 ((compF' F x2).bind fun x5 =>
 some x5)
 (some x2) : Option (List (List UInt8))).bind fun x3 =>
 ((util_words_has F a1 110).bind fun x7 =>
 cond x7
 ((slices_SortStableFunc F x3).bind fun x8 =>
 some x8)
 (some x3) : Option (List (List UInt8))).bind fun x6 =>
 (util_words_has F a1 114).bind fun x9 =>
 cond x9
 ((revF F x6).bind fun x10 =>
 some x10)
 (some x6)
def util_engine_sorted_s : Shp := ⟨108, [.one (.ptr 0 0)], [(bt0)], [(3, 1)], ⟨.one (.dat (.lst .str)), [none], [none], []⟩, none, []⟩
def util_engine_sorted_p : Plan := .seq [] none (.leaf) (.seq [] none (.leaf) (.seq [] none (.leaf) (.seq [] (some (⟨[(3, .one (.gso 1))], [none], [none, some (9, 1)], [(1, .str)]⟩, false)) (.leaf) (.seq [] (some (⟨[], [none], [none, none], [(1, .str)]⟩, false)) (.leaf) (.leaf)))))
def util_engine_sorted_c (F : Nat) : Ctr E := ⟨util_engine_sorted_s, fun (x : TUtil × Twords × TAinti648 × (List Int)) => util_engine_sorted F x.1 x.2.1 x.2.2.1 x.2.2.2⟩
theorem util_engine_sorted_ok (F : Nat) : (util_engine_sorted_c F).Ok Tryz.prog := Ctr.ok_of (X := ⟨Tryz.prog, tyT, [slicesSort_c F, slicesCompact_c F, slices_SortStableFunc_c F, slicesReverse_c F, util_lines_c F, util_words_has_c F], [], none⟩) (F := F) ⟨E_ok, okC (slicesSort_ok F) (okC (slicesCompact_ok F) (okC (slices_SortStableFunc_ok F) (okC (slicesReverse_ok F) (okC (util_lines_ok F) (okC (util_words_has_ok F) (okN)))))), mixed, goN, rvN⟩ (pl := util_engine_sorted_p) Tryz.func108 (by kernel_rfl) (fun x => by kernel_rfl)
def util_engine_unique (F : Nat)  (a0 : TUtil) (a1 : Twords) (a2 : TAinti648) (a3 : List Int) : Option (List (List UInt8)) :=
 ((util_lines F a0.fBuf).bind fun x2 =>
 some x2 : Option (List (List UInt8))).bind fun x1 =>
 loopF (σ := (List (List UInt8)) × Int) (R := List (List UInt8)) (fun rc4 x3 =>
 cond (decide (x3.2 < (x1.length : Int)))
 (loopF (σ := Int) (R := List (List UInt8)) (fun rc6 x5 =>
 (cond (decide (x5 < (x1.length : Int)))
 (rq ((decide (0 ≤ x5)) && (decide (x5 < (x1.length : Int)))) (rq ((decide (0 ≤ x3.2)) && (decide (x3.2 < (x1.length : Int)))) (some ((x1.getD (Int.toNat x5) []) == (x1.getD (Int.toNat x3.2) [])))))
 (some false) : Option Bool).bind fun x7 =>
 cond x7
 (rc6 (w64 (x5 + 1)))
 (rq ((decide (0 ≤ x3.2)) && (decide (x3.2 < (x1.length : Int)))) (((util_words_has F a1 99).bind fun x9 =>
 cond x9
 ((itoaF F (w64 (x5 - x3.2))).bind fun x10 =>
 rq (decide (x10.length + ([32] : List UInt8).length ≤ 9223372036854775807)) (rq (decide ((x10 ++ ([32] : List UInt8)).length + (x1.getD (Int.toNat x3.2) []).length ≤ 9223372036854775807)) (some ((x10 ++ ([32] : List UInt8)) ++ (x1.getD (Int.toNat x3.2) [])))))
 (some (x1.getD (Int.toNat x3.2) [])) : Option (List UInt8)).bind fun x8 =>
 rq ((decide (x3.1.length + ([x8] : List (List UInt8)).length ≤ 9223372036854775807)) && (decide ((x3.1.length + ([x8] : List (List UInt8)).length) * 16 ≤ 140737488355328))) (rc4 (x3.1 ++ ([x8] : List (List UInt8)), x5))))) F (w64 (x3.2 + 1)))
 (some x3.1)) F (([] : List (List UInt8)), 0)
def util_engine_unique_s : Shp := ⟨109, [.one (.ptr 0 0)], [(bt0)], [(3, 1)], ⟨.one (.dat (.lst .str)), [none], [none], []⟩, none, []⟩
def util_engine_unique_p : Plan := .seq [] none (.leaf) (.seq [] none (.region [(6, ⟨[(13, .one (.dat (.lst .str)))], [none], [none], []⟩, false)]) (.seq [] none (.leaf) (.seq [.slot 4 9 .str] none (.seq [] none (.leaf) (.loop [] ⟨[(4, .one (.gsl 1 .str)), (5, .one (.dat (.int .i64)))], [none], [none, some (9, 1)], []⟩ (.seq [] none (.leaf) (.seq [] none (.leaf) (.seq [] none (.loop [] ⟨[(6, .one (.dat (.int .i64)))], [none], [none, none], []⟩ (.seq [] none (.seq [] none (.draw [⟨true, 15, some ⟨[(34, .one (.dat .bool))], [none], [none, none], []⟩⟩]) (.leaf)) (.leaf))) (.seq [] none (.leaf) (.seq [] (some (⟨[(7, .one (.dat .str))], [none], [none, none], []⟩, false)) (.leaf) (.leaf)))))))) (.leaf))))
def util_engine_unique_c (F : Nat) : Ctr E := ⟨util_engine_unique_s, fun (x : TUtil × Twords × TAinti648 × (List Int)) => util_engine_unique F x.1 x.2.1 x.2.2.1 x.2.2.2⟩
theorem util_engine_unique_ok (F : Nat) : (util_engine_unique_c F).Ok Tryz.prog := Ctr.ok_of (X := ⟨Tryz.prog, tyT, [util_lines_c F, util_words_has_c F, strconvItoa_c F], [], none⟩) (F := F) ⟨E_ok, okC (util_lines_ok F) (okC (util_words_has_ok F) (okC (strconvItoa_ok F) (okN))), mixed, goN, rvN⟩ (pl := util_engine_unique_p) Tryz.func109 (by kernel_rfl) (fun x => by kernel_rfl)
def pattern_chars (F : Nat)  (a0 : List TRun) : Option (List Tchar) :=
 loopF (σ := (List Tchar) × Int) (R := List Tchar) (fun rc2 x1 =>
 cond (decide (x1.2 < (a0.length : Int)))
 (rq ((decide (0 ≤ x1.2)) && (decide (x1.2 < (a0.length : Int)))) ((cond (((a0.getD (Int.toNat x1.2) dTRun).fClass) != 0)
 (some (((a0.getD (Int.toNat x1.2) dTRun).fClass) != 1))
 (some false) : Option Bool).bind fun x3 =>
 (cond x3
 (some (((a0.getD (Int.toNat x1.2) dTRun).fClass) != 2))
 (some false) : Option Bool).bind fun x4 =>
 cond x4
 (rc2 (x1.1, w64 (x1.2 + 1)))
 (loopF (σ := (List Tchar) × Int) (R := List Tchar) (fun rc6 x5 =>
 cond (decide (x5.2 < (((a0.getD (Int.toNat x1.2) dTRun).fText).length : Int)))
 (rq ((decide (0 ≤ x5.2)) && (decide (x5.2 < (((a0.getD (Int.toNat x1.2) dTRun).fText).length : Int)))) (rq ((decide (x5.1.length + ([(Tchar.mk ((((a0.getD (Int.toNat x1.2) dTRun).fText).getD (Int.toNat x5.2) 0).toNat : Int) (((a0.getD (Int.toNat x1.2) dTRun).fClass) != 1))] : List Tchar).length ≤ 9223372036854775807)) && (decide ((x5.1.length + ([(Tchar.mk ((((a0.getD (Int.toNat x1.2) dTRun).fText).getD (Int.toNat x5.2) 0).toNat : Int) (((a0.getD (Int.toNat x1.2) dTRun).fClass) != 1))] : List Tchar).length) * 2 ≤ 140737488355328))) (rc6 (x5.1 ++ ([(Tchar.mk ((((a0.getD (Int.toNat x1.2) dTRun).fText).getD (Int.toNat x5.2) 0).toNat : Int) (((a0.getD (Int.toNat x1.2) dTRun).fClass) != 1))] : List Tchar), w64 (x5.2 + 1)))))
 (rc2 (x5.1, w64 (x1.2 + 1)))) F (x1.1, 0))))
 (some x1.1)) F (([] : List Tchar), 0)
def pattern_chars_s : Shp := ⟨172, [.one (.dat (.lst (.ext 8)))], [], [], ⟨.one (.dat (.lst (.ext 9))), [], [], []⟩, none, []⟩
def pattern_chars_p : Plan := .seq [] none (.leaf) (.seq [] none (.leaf) (.seq [.slot 3 197 (.ext 9)] none (.seq [] none (.leaf) (.loop [] ⟨[(3, .one (.gsl 0 (.ext 9))), (9, .one (.dat (.int .i64)))], [], [some (197, 2)], []⟩ (.seq [] none (.leaf) (.seq [] none (.leaf) (.seq [] none (.seq [] none (.leaf) (.seq [] none (.seq [] none (.region [(8, ⟨[(20, .one (.dat .bool))], [none], [none], []⟩, false), (5, ⟨[(25, .one (.dat .bool))], [none], [none], []⟩, false)]) (.leaf)) (.seq [] none (.leaf) (.loop [] ⟨[(3, .one (.gsl 0 (.ext 9))), (6, .one (.dat (.int .i64)))], [none], [some (197, 2)], []⟩ (.seq [] none (.leaf) (.seq [] none (.draw [⟨true, 9, none⟩, ⟨false, 3, none⟩]) (.leaf))))))) (.leaf)))))) (.leaf)))
def pattern_chars_c (F : Nat) : Ctr E := ⟨pattern_chars_s, fun (x : List TRun) => pattern_chars F x⟩
theorem pattern_chars_ok (F : Nat) : (pattern_chars_c F).Ok Tryz.prog := Ctr.ok_of (X := ⟨Tryz.prog, tyT, [], [], none⟩) (F := F) ⟨E_ok, okN, mixed, goN, rvN⟩ (pl := pattern_chars_p) Tryz.func172 (by kernel_rfl) (fun x => by kernel_rfl)
def pattern_is (F : Nat)  (a0 : List Tchar) (a1 : Int) (a2 : Int) : Option Bool :=
 (cond (decide (a1 < (a0.length : Int)))
 (rq ((decide (0 ≤ a1)) && (decide (a1 < (a0.length : Int)))) (some (((a0.getD (Int.toNat a1) dTchar).fb == (Tchar.mk a2 true).fb) && (((a0.getD (Int.toNat a1) dTchar).factive == (Tchar.mk a2 true).factive) && true))))
 (some false) : Option Bool).bind fun x1 =>
 some x1
def pattern_is_s : Shp := ⟨173, [.one (.dat (.lst (.ext 9))), .one (.dat (.int .i64)), .one (.dat (.int .u8))], [], [], ⟨.one (.dat .bool), [], [], []⟩, none, []⟩
def pattern_is_p : Plan := .seq [] none (.leaf) (.seq [] none (.region [(13, ⟨[(19, .one (.dat .bool))], [], [], []⟩, false)]) (.leaf))
def pattern_is_c (F : Nat) : Ctr E := ⟨pattern_is_s, fun (x : (List Tchar) × Int × Int) => pattern_is F x.1 x.2.1 x.2.2⟩
theorem pattern_is_ok (F : Nat) : (pattern_is_c F).Ok Tryz.prog := Ctr.ok_of (X := ⟨Tryz.prog, tyT, [], [], none⟩) (F := F) ⟨E_ok, okN, mixed, goN, rvN⟩ (pl := pattern_is_p) Tryz.func173 (by kernel_rfl) (fun x => by kernel_rfl)
def pattern_spans (F : Nat)  (a0 : List Bool) : Option (List TSpan) :=
 rq (Nat.beq a0.length 256) (loopF (σ := (List TSpan) × Int × (List Bool)) (R := List TSpan) (fun rc2 x1 =>
 cond (decide (x1.2.1 < 256))
 (rq ((decide (0 ≤ x1.2.1)) && ((decide (x1.2.1 < 256)) && (decide (x1.2.1 < (x1.2.2.length : Int))))) (cond (!(x1.2.2.getD (Int.toNat x1.2.1) false))
 (rc2 (x1.1, w64 (x1.2.1 + 1), x1.2.2))
 (loopF (σ := Int × (List Bool)) (R := List TSpan) (fun rc4 x3 =>
 (cond (decide (x3.1 < 255))
 (rq ((decide (0 ≤ w64 (x3.1 + 1))) && ((decide (w64 (x3.1 + 1) < 256)) && (decide (w64 (x3.1 + 1) < (x3.2.length : Int))))) (some (x3.2.getD (Int.toNat (w64 (x3.1 + 1))) false, x3.2)))
 (some (false, x3.2)) : Option (Bool × (List Bool))).bind fun x5 =>
 cond x5.1
 (rc4 (w64 (x3.1 + 1), x5.2))
 (rq ((decide (x1.1.length + ([(TSpan.mk (IntKind.wrap .u8 x1.2.1) (IntKind.wrap .u8 x3.1))] : List TSpan).length ≤ 9223372036854775807)) && (decide ((x1.1.length + ([(TSpan.mk (IntKind.wrap .u8 x1.2.1) (IntKind.wrap .u8 x3.1))] : List TSpan).length) * 2 ≤ 140737488355328))) (rc2 (x1.1 ++ ([(TSpan.mk (IntKind.wrap .u8 x1.2.1) (IntKind.wrap .u8 x3.1))] : List TSpan), w64 (x3.1 + 1), x5.2)))) F (x1.2.1, x1.2.2))))
 (some x1.1)) F (([] : List TSpan), 0, a0))
def pattern_spans_s : Shp := ⟨207, [.one (.aval .bool)], [], [], ⟨.one (.dat (.lst (.ext 7))), [], [], []⟩, none, []⟩
def pattern_spans_p : Plan := .seq [] none (.leaf) (.seq [] none (.leaf) (.seq [.slot 3 272 (.ext 7)] none (.seq [] none (.leaf) (.loop [] ⟨[(3, .one (.gsl 1 (.ext 7))), (4, .one (.dat (.int .i64)))], [], [none, some (272, 2)], [(0, .bool)]⟩ (.seq [] none (.leaf) (.seq [] none (.seq [] none (.leaf) (.seq [] none (.leaf) (.seq [] none (.loop [] ⟨[(4, .one (.dat (.int .i64)))], [], [none, none], [(0, .bool)]⟩ (.seq [] none (.seq [] none (.region [(8, ⟨[(22, .one (.dat .bool))], [], [none, none], [(0, .bool)]⟩, false)]) (.leaf)) (.leaf))) (.leaf)))) (.leaf))))) (.leaf)))
def pattern_spans_c (F : Nat) : Ctr E := ⟨pattern_spans_s, fun (x : List Bool) => pattern_spans F x⟩
theorem pattern_spans_ok (F : Nat) : (pattern_spans_c F).Ok Tryz.prog := Ctr.ok_of (X := ⟨Tryz.prog, tyT, [], [], none⟩) (F := F) ⟨E_ok, okN, mixed, goN, rvN⟩ (pl := pattern_spans_p) Tryz.func207 (by kernel_rfl) (fun x => by kernel_rfl)
def pattern_class (F : Nat)  (a0 : List Tchar) (a1 : Int) : Option ((List UInt8) × Int × Bool) :=
 ((pattern_is F a0 a1 91).bind fun x2 =>
 cond (!x2)
 (some true)
 ((pattern_is F a0 (w64 (a1 + 1)) 58).bind fun x3 =>
 some (!x3)) : Option Bool).bind fun x1 =>
 cond x1
 (some ([], 0, false))
 (loopF (σ := Int × (List Int)) (R := (List UInt8) × Int × Bool) (fun rc5 x4 =>
 (cond (decide (x4.1 < (a0.length : Int)))
 (rq ((decide (0 ≤ x4.1)) && (decide (x4.1 < (a0.length : Int)))) (some ((a0.getD (Int.toNat x4.1) dTchar).factive)))
 (some false) : Option Bool).bind fun x6 =>
 (cond x6
 (rq ((decide (0 ≤ x4.1)) && (decide (x4.1 < (a0.length : Int)))) (some (decide (97 ≤ (a0.getD (Int.toNat x4.1) dTchar).fb))))
 (some false) : Option Bool).bind fun x7 =>
 (cond x7
 (rq ((decide (0 ≤ x4.1)) && (decide (x4.1 < (a0.length : Int)))) (some (decide ((a0.getD (Int.toNat x4.1) dTchar).fb ≤ 122))))
 (some false) : Option Bool).bind fun x8 =>
 cond x8
 (rq ((decide (0 ≤ x4.1)) && (decide (x4.1 < (a0.length : Int)))) (rq ((decide (x4.2.length + ([(a0.getD (Int.toNat x4.1) dTchar).fb] : List Int).length ≤ 9223372036854775807)) && (decide ((x4.2.length + ([(a0.getD (Int.toNat x4.1) dTchar).fb] : List Int).length) * 1 ≤ 140737488355328))) (rc5 (w64 (x4.1 + 1), x4.2 ++ ([(a0.getD (Int.toNat x4.1) dTchar).fb] : List Int)))))
 (((pattern_is F a0 x4.1 58).bind fun x10 =>
 cond (!x10)
 (some true)
 ((pattern_is F a0 (w64 (x4.1 + 1)) 93).bind fun x11 =>
 some (!x11)) : Option Bool).bind fun x9 =>
 cond x9
 (some ([], 0, false))
 ((cond ((toBytes x4.2) == ([97, 108, 112, 104, 97] : List UInt8))
 (some ((toBytes x4.2) == ([97, 108, 112, 104, 97] : List UInt8)))
 (cond ((toBytes x4.2) == ([100, 105, 103, 105, 116] : List UInt8))
 (some ((toBytes x4.2) == ([100, 105, 103, 105, 116] : List UInt8)))
 (cond ((toBytes x4.2) == ([97, 108, 110, 117, 109] : List UInt8))
 (some ((toBytes x4.2) == ([97, 108, 110, 117, 109] : List UInt8)))
 (cond ((toBytes x4.2) == ([117, 112, 112, 101, 114] : List UInt8))
 (some ((toBytes x4.2) == ([117, 112, 112, 101, 114] : List UInt8)))
 (cond ((toBytes x4.2) == ([108, 111, 119, 101, 114] : List UInt8))
 (some ((toBytes x4.2) == ([108, 111, 119, 101, 114] : List UInt8)))
 (cond ((toBytes x4.2) == ([115, 112, 97, 99, 101] : List UInt8))
 (some ((toBytes x4.2) == ([115, 112, 97, 99, 101] : List UInt8)))
 (cond ((toBytes x4.2) == ([98, 108, 97, 110, 107] : List UInt8))
 (some ((toBytes x4.2) == ([98, 108, 97, 110, 107] : List UInt8)))
 (some ((toBytes x4.2) == ([112, 117, 110, 99, 116] : List UInt8))))))))) : Option Bool).bind fun x12 =>
 cond x12
 (some (toBytes x4.2, w64 (x4.1 + 2), true))
 (some ([], 0, false))))) F (w64 (a1 + 2), ([] : List Int)))
def pattern_class_s : Shp := ⟨241, [.one (.dat (.lst (.ext 9))), .one (.dat (.int .i64))], [], [], ⟨.tup [.dat .str, .dat (.int .i64), .dat .bool], [], [], []⟩, none, []⟩
def pattern_class_p : Plan := .seq [] none (.leaf) (.seq [] none (.seq [] none (.region [(11, ⟨[(18, .one (.dat .bool))], [], [], []⟩, false)]) (.leaf)) (.seq [] none (.leaf) (.seq [] none (.leaf) (.seq [.slot 7 5 (.int .u8)] none (.loop [] ⟨[(1, .one (.dat (.int .i64))), (7, .one (.gsl 0 (.int .u8)))], [], [some (5, 1)], []⟩ (.seq [] none (.seq [] none (.region [(11, ⟨[(31, .one (.dat .bool))], [], [none], []⟩, false), (8, ⟨[(39, .one (.dat .bool))], [], [none], []⟩, false), (8, ⟨[(47, .one (.dat .bool))], [], [none], []⟩, false)]) (.leaf)) (.leaf))) (.seq [] none (.seq [] none (.region [(11, ⟨[(68, .one (.dat .bool))], [], [none], []⟩, false)]) (.leaf)) (.seq [] none (.seq [] none (.leaf) (.seq [] (some (⟨[(71, .one (.dat .bool))], [], [none], []⟩, false)) (.leaf) (.leaf))) (.leaf)))))))
def pattern_class_c (F : Nat) : Ctr E := ⟨pattern_class_s, fun (x : (List Tchar) × Int) => pattern_class F x.1 x.2⟩
theorem pattern_class_ok (F : Nat) : (pattern_class_c F).Ok Tryz.prog := Ctr.ok_of (X := ⟨Tryz.prog, tyT, [pattern_is_c F], [], none⟩) (F := F) ⟨E_ok, okC (pattern_is_ok F) (okN), mixed, goN, rvN⟩ (pl := pattern_class_p) Tryz.func241 (by kernel_rfl) (fun x => by kernel_rfl)
def pattern_within (F : Nat)  (a0 : List UInt8) (a1 : Int) : Option Bool :=
 (cond (decide (65 ≤ a1))
 (some (decide (a1 ≤ 90)))
 (some false) : Option Bool).bind fun x1 =>
 (cond (decide (97 ≤ a1))
 (some (decide (a1 ≤ 122)))
 (some false) : Option Bool).bind fun x2 =>
 (cond (decide (48 ≤ a1))
 (some (decide (a1 ≤ 57)))
 (some false) : Option Bool).bind fun x3 =>
 cond (a0 == ([97, 108, 112, 104, 97] : List UInt8))
 ((cond x1
 (some true)
 (some x2) : Option Bool).bind fun x4 =>
 some x4)
 (cond (a0 == ([100, 105, 103, 105, 116] : List UInt8))
 (some x3)
 (cond (a0 == ([97, 108, 110, 117, 109] : List UInt8))
 ((cond x1
 (some true)
 (some x2) : Option Bool).bind fun x5 =>
 (cond x5
 (some true)
 (some x3) : Option Bool).bind fun x6 =>
 some x6)
 (cond (a0 == ([117, 112, 112, 101, 114] : List UInt8))
 (some x1)
 (cond (a0 == ([108, 111, 119, 101, 114] : List UInt8))
 (some x2)
 (cond (a0 == ([115, 112, 97, 99, 101] : List UInt8))
 ((cond (decide (9 ≤ a1))
 (some (decide (a1 ≤ 13)))
 (some false) : Option Bool).bind fun x7 =>
 (cond x7
 (some true)
 (some (a1 == 32)) : Option Bool).bind fun x8 =>
 some x8)
 (cond (a0 == ([98, 108, 97, 110, 107] : List UInt8))
 ((cond (a1 == 9)
 (some true)
 (some (a1 == 32)) : Option Bool).bind fun x9 =>
 some x9)
 ((cond (decide (33 ≤ a1))
 (some (decide (a1 ≤ 47)))
 (some false) : Option Bool).bind fun x10 =>
 (cond x10
 (some true)
 (cond (decide (58 ≤ a1))
 (some (decide (a1 ≤ 64)))
 (some false)) : Option Bool).bind fun x11 =>
 (cond x11
 (some true)
 (cond (decide (91 ≤ a1))
 (some (decide (a1 ≤ 96)))
 (some false)) : Option Bool).bind fun x12 =>
 (cond x12
 (some true)
 (cond (decide (123 ≤ a1))
 (some (decide (a1 ≤ 126)))
 (some false)) : Option Bool).bind fun x13 =>
 some x13)))))))
def pattern_within_s : Shp := ⟨242, [.one (.dat .str), .one (.dat (.int .i64))], [], [], ⟨.one (.dat .bool), [], [], []⟩, none, []⟩
def pattern_within_p : Plan := .seq [] none (.leaf) (.seq [] none (.region [(6, ⟨[(13, .one (.dat .bool))], [], [], []⟩, false)]) (.seq [] none (.region [(6, ⟨[(19, .one (.dat .bool))], [], [], []⟩, false)]) (.seq [] none (.region [(6, ⟨[(25, .one (.dat .bool))], [], [], []⟩, false)]) (.seq [] none (.seq [] none (.leaf) (.seq [] none (.leaf) (.cond (.seq [] none (.region [(4, ⟨[(32, .one (.dat .bool))], [], [], []⟩, false)]) (.leaf)) (.seq [] none (.leaf) (.cond (.leaf) (.seq [] none (.leaf) (.cond (.seq [] none (.region [(4, ⟨[(41, .one (.dat .bool))], [], [], []⟩, false), (3, ⟨[(44, .one (.dat .bool))], [], [], []⟩, false)]) (.leaf)) (.seq [] none (.leaf) (.cond (.leaf) (.seq [] none (.leaf) (.cond (.leaf) (.seq [] none (.leaf) (.cond (.seq [] none (.region [(6, ⟨[(58, .one (.dat .bool))], [], [], []⟩, false), (4, ⟨[(62, .one (.dat .bool))], [], [], []⟩, false)]) (.leaf)) (.seq [] none (.leaf) (.cond (.seq [] none (.region [(6, ⟨[(70, .one (.dat .bool))], [], [], []⟩, false)]) (.leaf)) (.leaf)))))))))))))))) (.seq [] none (.region [(6, ⟨[(76, .one (.dat .bool))], [], [], []⟩, false), (8, ⟨[(84, .one (.dat .bool))], [], [], []⟩, false), (8, ⟨[(92, .one (.dat .bool))], [], [], []⟩, false), (8, ⟨[(100, .one (.dat .bool))], [], [], []⟩, false)]) (.leaf))))))
def pattern_within_c (F : Nat) : Ctr E := ⟨pattern_within_s, fun (x : (List UInt8) × Int) => pattern_within F x.1 x.2⟩
theorem pattern_within_ok (F : Nat) : (pattern_within_c F).Ok Tryz.prog := Ctr.ok_of (X := ⟨Tryz.prog, tyT, [], [], none⟩) (F := F) ⟨E_ok, okN, mixed, goN, rvN⟩ (pl := pattern_within_p) Tryz.func242 (by kernel_rfl) (fun x => by kernel_rfl)
def pattern_member (F : Nat)  (a0 : List Tchar) (a1 : Int) (a2 : List Bool) : Option (Int × (List Bool)) :=
 (pattern_class F a0 a1).bind fun x1 =>
 cond x1.2.2
 (loopF (σ := Int × (List Bool)) (R := Int × (List Bool)) (fun rc3 x2 =>
 cond (decide (x2.1 < 256))
 ((pattern_within F x1.1 x2.1).bind fun x4 =>
 cond x4
 (rq ((decide (0 ≤ x2.1)) && ((decide (x2.1 < 256)) && (decide (x2.1 < (x2.2.length : Int))))) (rc3 (w64 (x2.1 + 1), x2.2.set (Int.toNat x2.1) true)))
 (rc3 (w64 (x2.1 + 1), x2.2)))
 (some (x1.2.1, x2.2))) F (0, a2))
 (((pattern_is F a0 (w64 (a1 + 1)) 45).bind fun x6 =>
 cond x6
 (some (decide (w64 (a1 + 2) < (a0.length : Int)), a2))
 (some (false, a2)) : Option (Bool × (List Bool))).bind fun x5 =>
 (cond x5.1
 ((pattern_is F a0 (w64 (a1 + 2)) 93).bind fun x8 =>
 some (!x8, x5.2))
 (some (false, x5.2)) : Option (Bool × (List Bool))).bind fun x7 =>
 cond x7.1
 (rq ((decide (0 ≤ a1)) && (decide (a1 < (a0.length : Int)))) (loopF (σ := Int × (List Bool)) (R := Int × (List Bool)) (fun rc10 x9 =>
 rq ((decide (0 ≤ w64 (a1 + 2))) && (decide (w64 (a1 + 2) < (a0.length : Int)))) (cond (decide (x9.1 ≤ w64 ((a0.getD (Int.toNat (w64 (a1 + 2))) dTchar).fb)))
 (rq ((decide (0 ≤ x9.1)) && ((decide (x9.1 < 256)) && (decide (x9.1 < (x9.2.length : Int))))) (rc10 (w64 (x9.1 + 1), x9.2.set (Int.toNat x9.1) true)))
 (some (w64 (a1 + 3), x9.2)))) F (w64 ((a0.getD (Int.toNat a1) dTchar).fb), x7.2)))
 (rq ((decide (0 ≤ a1)) && (decide (a1 < (a0.length : Int)))) (rq ((decide (0 ≤ (a0.getD (Int.toNat a1) dTchar).fb)) && ((decide ((a0.getD (Int.toNat a1) dTchar).fb < 256)) && (decide ((a0.getD (Int.toNat a1) dTchar).fb < (x7.2.length : Int))))) (some (w64 (a1 + 1), x7.2.set (Int.toNat ((a0.getD (Int.toNat a1) dTchar).fb)) true)))))
def pattern_member_s : Shp := ⟨208, [.one (.dat (.lst (.ext 9))), .one (.dat (.int .i64)), .one (.rptr 0 1)], [], [(223, 1)], ⟨.one (.dat (.int .i64)), [], [none], [(0, .bool)]⟩, none, [(0, .bool)]⟩
def pattern_member_p : Plan := .seq [] none (.leaf) (.seq [] none (.seq [] none (.leaf) (.seq [] none (.leaf) (.cond (.seq [] none (.seq [] none (.leaf) (.loop [] ⟨[(20, .one (.dat (.int .i64)))], [], [none], [(0, .bool)]⟩ (.leaf))) (.leaf)) (.leaf)))) (.seq [] none (.seq [] none (.region [(11, ⟨[(42, .one (.dat .bool))], [], [none], [(0, .bool)]⟩, false), (7, ⟨[(49, .one (.dat .bool))], [], [none], [(0, .bool)]⟩, false)]) (.cond (.seq [] none (.seq [] none (.leaf) (.loop [] ⟨[(11, .one (.dat (.int .i64)))], [], [none], [(0, .bool)]⟩ (.leaf))) (.leaf)) (.leaf))) (.seq [] none (.draw [⟨true, 8, none⟩, ⟨false, 1, none⟩]) (.leaf))))
def pattern_member_c (F : Nat) : Ctr E := ⟨pattern_member_s, fun (x : (List Tchar) × Int × (List Bool)) => pattern_member F x.1 x.2.1 x.2.2⟩
theorem pattern_member_ok (F : Nat) : (pattern_member_c F).Ok Tryz.prog := Ctr.ok_of (X := ⟨Tryz.prog, tyT, [pattern_class_c F, pattern_within_c F, pattern_is_c F], [], none⟩) (F := F) ⟨E_ok, okC (pattern_class_ok F) (okC (pattern_within_ok F) (okC (pattern_is_ok F) (okN))), mixed, goN, rvN⟩ (pl := pattern_member_p) Tryz.func208 (by kernel_rfl) (fun x => by kernel_rfl)
def pattern_bracket (F : Nat)  (a0 : List Tchar) (a1 : Int) : Option (TPatItem × Int × Bool) :=
 ((pattern_is F a0 (w64 (a1 + 1)) 33).bind fun x2 =>
 cond x2
 (some true)
 ((pattern_is F a0 (w64 (a1 + 1)) 94).bind fun x3 =>
 some x3) : Option Bool).bind fun x1 =>
 (cond x1
 (some (w64 ((w64 (a1 + 1)) + 1)))
 (some (w64 (a1 + 1))) : Option Int).bind fun x4 =>
 loopF (σ := Int × Bool × (List Bool)) (R := TPatItem × Int × Bool) (fun rc6 x5 =>
 cond (decide (x5.1 < (a0.length : Int)))
 (((pattern_is F a0 x5.1 93).bind fun x8 =>
 cond x8
 (some (!x5.2.1, x5.2.2))
 (some (false, x5.2.2)) : Option (Bool × (List Bool))).bind fun x7 =>
 cond x7.1
 (rq (Nat.beq (x7.2.length * 1) 256) ((pattern_spans F x7.2).bind fun x9 =>
 some ((TPatItem.mk 4 [] x1 x9), w64 (x5.1 + 1), true)))
 ((pattern_member F a0 x5.1 x7.2).bind fun x10 =>
 rc6 (x10.1, false, x10.2)))
 (some ((TPatItem.mk 0 [] false []), 0, false))) F (x4, true, List.replicate 256 false)
def pattern_bracket_s : Shp := ⟨174, [.one (.dat (.lst (.ext 9))), .one (.dat (.int .i64))], [], [], ⟨.tup [.dat (.ext 6), .dat (.int .i64), .dat .bool], [], [], []⟩, none, []⟩
def pattern_bracket_p : Plan := .seq [] none (.leaf) (.seq [] none (.leaf) (.seq [] none (.region [(8, ⟨[(19, .one (.dat .bool))], [none], [], []⟩, false)]) (.seq [] (some (⟨[(1, .one (.dat (.int .i64)))], [none], [], []⟩, false)) (.leaf) (.seq [] none (.leaf) (.seq [] none (.seq [] none (.leaf) (.loop [] ⟨[(1, .one (.dat (.int .i64))), (9, .one (.dat .bool))], [none], [none], [(0, .bool)]⟩ (.seq [] none (.leaf) (.seq [] none (.seq [] none (.seq [] none (.region [(7, ⟨[(33, .one (.dat .bool))], [none], [none], [(0, .bool)]⟩, false)]) (.leaf)) (.leaf)) (.leaf))))) (.leaf))))))
def pattern_bracket_c (F : Nat) : Ctr E := ⟨pattern_bracket_s, fun (x : (List Tchar) × Int) => pattern_bracket F x.1 x.2⟩
theorem pattern_bracket_ok (F : Nat) : (pattern_bracket_c F).Ok Tryz.prog := Ctr.ok_of (X := ⟨Tryz.prog, tyT, [pattern_member_c F, pattern_is_c F, pattern_spans_c F], [], none⟩) (F := F) ⟨E_ok, okC (pattern_member_ok F) (okC (pattern_is_ok F) (okC (pattern_spans_ok F) (okN))), mixed, goN, rvN⟩ (pl := pattern_bracket_p) Tryz.func174 (by kernel_rfl) (fun x => by kernel_rfl)
def pattern_Compile (F : Nat)  (a0 : List TRun) : Option (List TPatItem) :=
 (pattern_chars F a0).bind fun x1 =>
 loopF (σ := (List TPatItem) × Int) (R := List TPatItem) (fun rc3 x2 =>
 cond (decide (x2.2 < (x1.length : Int)))
 (jj (σ := (List TPatItem) × Int) (R := List TPatItem) ((pattern_is F x1 x2.2 91).bind fun x5 =>
 cond x5
 ((pattern_bracket F x1 x2.2).bind fun x6 =>
 cond x6.2.2
 (rq ((decide (x2.1.length + ([x6.1] : List TPatItem).length ≤ 9223372036854775807)) && (decide ((x2.1.length + ([x6.1] : List TPatItem).length) * 56 ≤ 140737488355328))) (retK (rc3 (x2.1 ++ ([x6.1] : List TPatItem), x6.2.1))))
 (some (.inl (x2.1, x2.2))))
 (some (.inl (x2.1, x2.2)))) fun x4 =>
 (pattern_is F x1 x4.2 42).bind fun x7 =>
 cond x7
 (rq ((decide (x4.1.length + ([(TPatItem.mk 3 [] false [])] : List TPatItem).length ≤ 9223372036854775807)) && (decide ((x4.1.length + ([(TPatItem.mk 3 [] false [])] : List TPatItem).length) * 56 ≤ 140737488355328))) (rc3 (x4.1 ++ ([(TPatItem.mk 3 [] false [])] : List TPatItem), w64 (x4.2 + 1))))
 ((pattern_is F x1 x4.2 63).bind fun x8 =>
 cond x8
 (rq ((decide (x4.1.length + ([(TPatItem.mk 2 [] false [])] : List TPatItem).length ≤ 9223372036854775807)) && (decide ((x4.1.length + ([(TPatItem.mk 2 [] false [])] : List TPatItem).length) * 56 ≤ 140737488355328))) (rc3 (x4.1 ++ ([(TPatItem.mk 2 [] false [])] : List TPatItem), w64 (x4.2 + 1))))
 (rq ((decide (0 ≤ x4.2)) && (decide (x4.2 < (x1.length : Int)))) (rq ((decide (x4.1.length + ([(TPatItem.mk 1 (toBytes ([(x1.getD (Int.toNat x4.2) dTchar).fb] : List Int)) false [])] : List TPatItem).length ≤ 9223372036854775807)) && (decide ((x4.1.length + ([(TPatItem.mk 1 (toBytes ([(x1.getD (Int.toNat x4.2) dTchar).fb] : List Int)) false [])] : List TPatItem).length) * 56 ≤ 140737488355328))) (rc3 (x4.1 ++ ([(TPatItem.mk 1 (toBytes ([(x1.getD (Int.toNat x4.2) dTchar).fb] : List Int)) false [])] : List TPatItem), w64 (x4.2 + 1)))))))
 (some x2.1)) F (([] : List TPatItem), 0)
def pattern_Compile_s : Shp := ⟨145, [.one (.dat (.lst (.ext 8)))], [], [], ⟨.one (.dat (.lst (.ext 6))), [], [], []⟩, none, []⟩
def pattern_Compile_p : Plan := .seq [] none (.leaf) (.seq [] none (.leaf) (.seq [] none (.leaf) (.seq [.slot 4 164 (.ext 6)] none (.seq [] none (.leaf) (.loop [] ⟨[(4, .one (.gsl 0 (.ext 6))), (5, .one (.dat (.int .i64)))], [], [some (164, 4)], []⟩ (.seq [] none (.leaf) (.seq [] (some (⟨[(4, .one (.gsl 0 (.ext 6))), (5, .one (.dat (.int .i64)))], [], [none], []⟩, true)) (.leaf) (.leaf))))) (.leaf))))
def pattern_Compile_c (F : Nat) : Ctr E := ⟨pattern_Compile_s, fun (x : List TRun) => pattern_Compile F x⟩
theorem pattern_Compile_ok (F : Nat) : (pattern_Compile_c F).Ok Tryz.prog := Ctr.ok_of (X := ⟨Tryz.prog, tyT, [pattern_chars_c F, pattern_is_c F, pattern_bracket_c F], [], none⟩) (F := F) ⟨E_ok, okC (pattern_chars_ok F) (okC (pattern_is_ok F) (okC (pattern_bracket_ok F) (okN))), mixed, goN, rvN⟩ (pl := pattern_Compile_p) Tryz.func145 (by kernel_rfl) (fun x => by kernel_rfl)
def pattern_valid (F : Nat)  (a0 : List TPatItem) : Option Bool :=
 loopF (σ := Int) (R := Bool) (fun rc2 x1 =>
 cond (decide (x1 < (a0.length : Int)))
 (rq ((decide (0 ≤ x1)) && (decide (x1 < (a0.length : Int)))) ((cond (((a0.getD (Int.toNat x1) dTPatItem).fKind) == 1)
 (some 1)
 (some 0) : Option Int).bind fun x3 =>
 (cond (decide ((a0.getD (Int.toNat x1) dTPatItem).fKind < 1))
 (some true)
 (some (decide (4 < (a0.getD (Int.toNat x1) dTPatItem).fKind))) : Option Bool).bind fun x4 =>
 (cond x4
 (some true)
 (some ((((a0.getD (Int.toNat x1) dTPatItem).fText).length : Int) != x3)) : Option Bool).bind fun x5 =>
 cond x5
 (some false)
 ((cond (((a0.getD (Int.toNat x1) dTPatItem).fKind) != 4)
 (cond ((a0.getD (Int.toNat x1) dTPatItem).fNeg)
 (some true)
 (some (decide (0 < (((a0.getD (Int.toNat x1) dTPatItem).fSet).length : Int)))))
 (some false) : Option Bool).bind fun x6 =>
 cond x6
 (some false)
 (loopF (σ := Int) (R := Bool) (fun rc8 x7 =>
 cond (decide (x7 < (((a0.getD (Int.toNat x1) dTPatItem).fSet).length : Int)))
 (rq ((decide (0 ≤ x7)) && (decide (x7 < (((a0.getD (Int.toNat x1) dTPatItem).fSet).length : Int)))) ((cond (decide ((((a0.getD (Int.toNat x1) dTPatItem).fSet).getD (Int.toNat x7) dTSpan).fHigh < (((a0.getD (Int.toNat x1) dTPatItem).fSet).getD (Int.toNat x7) dTSpan).fLow))
 (some true)
 (cond (decide (0 < x7))
 (rq ((decide (0 ≤ w64 (x7 - 1))) && (decide (w64 (x7 - 1) < (((a0.getD (Int.toNat x1) dTPatItem).fSet).length : Int)))) (some (decide (w64 ((((a0.getD (Int.toNat x1) dTPatItem).fSet).getD (Int.toNat x7) dTSpan).fLow) ≤ w64 ((w64 ((((a0.getD (Int.toNat x1) dTPatItem).fSet).getD (Int.toNat (w64 (x7 - 1))) dTSpan).fHigh)) + 1)))))
 (some false)) : Option Bool).bind fun x9 =>
 cond x9
 (some false)
 (rc8 (w64 (x7 + 1)))))
 (rc2 (w64 (x1 + 1)))) F 0))))
 (some true)) F 0
def pattern_valid_s : Shp := ⟨209, [.one (.dat (.lst (.ext 6)))], [], [], ⟨.one (.dat .bool), [], [], []⟩, none, []⟩
def pattern_valid_p : Plan := .seq [] none (.leaf) (.seq [] none (.seq [] none (.leaf) (.loop [] ⟨[(10, .one (.dat (.int .i64)))], [], [], []⟩ (.seq [] none (.leaf) (.seq [] none (.leaf) (.seq [] none (.seq [] none (.leaf) (.seq [] none (.leaf) (.seq [] (some (⟨[(5, .one (.dat (.int .i64)))], [none], [], []⟩, false)) (.leaf) (.seq [] none (.seq [] none (.region [(8, ⟨[(24, .one (.dat .bool))], [none], [], []⟩, false), (7, ⟨[(31, .one (.dat .bool))], [none], [], []⟩, false)]) (.leaf)) (.seq [] none (.seq [] none (.region [(13, ⟨[(44, .one (.dat .bool))], [none], [], []⟩, false)]) (.leaf)) (.seq [] none (.leaf) (.loop [] ⟨[(48, .one (.dat (.int .i64)))], [none], [], []⟩ (.seq [] none (.leaf) (.seq [] none (.leaf) (.seq [] none (.seq [] none (.leaf) (.seq [] none (.draw [⟨true, 24, some ⟨[(76, .one (.dat .bool))], [none, none], [], []⟩⟩]) (.leaf))) (.leaf))))))))))) (.leaf)))))) (.leaf))
def pattern_valid_c (F : Nat) : Ctr E := ⟨pattern_valid_s, fun (x : List TPatItem) => pattern_valid F x⟩
theorem pattern_valid_ok (F : Nat) : (pattern_valid_c F).Ok Tryz.prog := Ctr.ok_of (X := ⟨Tryz.prog, tyT, [], [], none⟩) (F := F) ⟨E_ok, okN, mixed, goN, rvN⟩ (pl := pattern_valid_p) Tryz.func209 (by kernel_rfl) (fun x => by kernel_rfl)
def pattern_spread (F : Nat)  (a0 : List TPatItem) (a1 : List Bool) : Option (List Bool) :=
 loopF (σ := Int × (List Bool)) (R := List Bool) (fun rc2 x1 =>
 cond (decide (x1.1 < (a0.length : Int)))
 (rq ((decide (0 ≤ x1.1)) && (decide (x1.1 < (a0.length : Int)))) ((rq ((decide (0 ≤ x1.1)) && (decide (x1.1 < (x1.2.length : Int)))) (cond (x1.2.getD (Int.toNat x1.1) false)
 (some (((a0.getD (Int.toNat x1.1) dTPatItem).fKind) == 3, x1.2))
 (some (false, x1.2))) : Option (Bool × (List Bool))).bind fun x3 =>
 cond x3.1
 (rq ((decide (0 ≤ w64 (x1.1 + 1))) && (decide (w64 (x1.1 + 1) < (x3.2.length : Int)))) (rc2 (w64 (x1.1 + 1), x3.2.set (Int.toNat (w64 (x1.1 + 1))) true)))
 (rc2 (w64 (x1.1 + 1), x3.2))))
 (some x1.2)) F (0, a1)
def pattern_spread_s : Shp := ⟨210, [.one (.dat (.lst (.ext 6))), .one (.gso 0)], [], [(4, 1)], ⟨.tup [], [], [none], [(0, .bool)]⟩, none, [(0, .bool)]⟩
def pattern_spread_p : Plan := .seq [] none (.leaf) (.loop [] ⟨[(8, .one (.dat (.int .i64)))], [], [none], [(0, .bool)]⟩ (.seq [] none (.leaf) (.seq [] none (.leaf) (.seq [] none (.seq [] none (.leaf) (.seq [] none (.region [(9, ⟨[(21, .one (.dat .bool))], [none], [none], [(0, .bool)]⟩, false)]) (.leaf))) (.leaf)))))
def pattern_spread_c (F : Nat) : Ctr E := ⟨pattern_spread_s, fun (x : (List TPatItem) × (List Bool)) => pattern_spread F x.1 x.2⟩
theorem pattern_spread_ok (F : Nat) : (pattern_spread_c F).Ok Tryz.prog := Ctr.ok_of (X := ⟨Tryz.prog, tyT, [], [], none⟩) (F := F) ⟨E_ok, okN, mixed, goN, rvN⟩ (pl := pattern_spread_p) Tryz.func210 (by kernel_rfl) (fun x => by kernel_rfl)
def slices_Index_1 (F : Nat)  (a0 : Bool) (a1 : List Bool) : Option (Int × (List Bool)) :=
 loopF (σ := Int × (List Bool)) (R := Int × (List Bool)) (fun rc2 x1 =>
 cond (decide (x1.1 < (a1.length : Int)))
 (rq ((decide (0 ≤ x1.1)) && (decide (x1.1 < (x1.2.length : Int)))) (cond (a0 == (x1.2.getD (Int.toNat x1.1) false))
 (some (x1.1, x1.2))
 (rc2 (w64 (x1.1 + 1), x1.2))))
 (some ((-1), x1.2))) F (0, a1)
def slices_Index_1_s : Shp := ⟨243, [.one (.gso 0), .one (.dat .bool)], [], [(4, 1)], ⟨.one (.dat (.int .i64)), [], [none], [(0, .bool)]⟩, none, [(0, .bool)]⟩
def slices_Index_1_p : Plan := .seq [] none (.leaf) (.seq [] none (.seq [] none (.leaf) (.loop [] ⟨[(8, .one (.dat (.int .i64)))], [], [none], [(0, .bool)]⟩ (.leaf))) (.leaf))
def slices_Index_1_c (F : Nat) : Ctr E := ⟨slices_Index_1_s, fun (x : Bool × (List Bool)) => slices_Index_1 F x.1 x.2⟩
theorem slices_Index_1_ok (F : Nat) : (slices_Index_1_c F).Ok Tryz.prog := Ctr.ok_of (X := ⟨Tryz.prog, tyT, [], [], none⟩) (F := F) ⟨E_ok, okN, mixed, goN, rvN⟩ (pl := slices_Index_1_p) Tryz.func243 (by kernel_rfl) (fun x => by kernel_rfl)
def slices_Contains_1 (F : Nat)  (a0 : Bool) (a1 : List Bool) : Option (Bool × (List Bool)) :=
 (slices_Index_1 F a0 a1).bind fun x1 =>
 some (decide (0 ≤ x1.1), x1.2)
def slices_Contains_1_s : Shp := ⟨211, [.one (.gso 0), .one (.dat .bool)], [], [(4, 1)], ⟨.one (.dat .bool), [], [none], [(0, .bool)]⟩, none, [(0, .bool)]⟩
def slices_Contains_1_p : Plan := .leaf
def slices_Contains_1_c (F : Nat) : Ctr E := ⟨slices_Contains_1_s, fun (x : Bool × (List Bool)) => slices_Contains_1 F x.1 x.2⟩
theorem slices_Contains_1_ok (F : Nat) : (slices_Contains_1_c F).Ok Tryz.prog := Ctr.ok_of (X := ⟨Tryz.prog, tyT, [slices_Index_1_c F], [], none⟩) (F := F) ⟨E_ok, okC (slices_Index_1_ok F) (okN), mixed, goN, rvN⟩ (pl := slices_Contains_1_p) Tryz.func211 (by kernel_rfl) (fun x => by kernel_rfl)
def pattern_fits (F : Nat)  (a0 : TPatItem) (a1 : Int) : Option Bool :=
 cond (a0.fKind == 1)
 (rq (decide (0 < (a0.fText.length : Int))) (some (((a0.fText.getD 0 0).toNat : Int) == a1)))
 (cond (a0.fKind == 4)
 (loopF (σ := Bool × Int) (R := Bool) (fun rc2 x1 =>
 cond (decide (x1.2 < (a0.fSet.length : Int)))
 (rq ((decide (0 ≤ x1.2)) && (decide (x1.2 < (a0.fSet.length : Int)))) ((cond x1.1
 (some true)
 (cond (decide ((a0.fSet.getD (Int.toNat x1.2) dTSpan).fLow ≤ a1))
 (some (decide (a1 ≤ (a0.fSet.getD (Int.toNat x1.2) dTSpan).fHigh)))
 (some false)) : Option Bool).bind fun x3 =>
 rc2 (x3, w64 (x1.2 + 1))))
 (some (!(x1.1 == a0.fNeg)))) F (false, 0))
 (some true))
def pattern_fits_s : Shp := ⟨244, [.one (.dat (.ext 6)), .one (.dat (.int .u8))], [], [], ⟨.one (.dat .bool), [], [], []⟩, none, []⟩
def pattern_fits_p : Plan := .seq [] none (.leaf) (.seq [] none (.seq [] none (.leaf) (.seq [] none (.leaf) (.cond (.leaf) (.seq [] none (.leaf) (.cond (.seq [] none (.leaf) (.seq [] none (.seq [] none (.leaf) (.loop [] ⟨[(5, .one (.dat .bool)), (22, .one (.dat (.int .i64)))], [none], [], []⟩ (.seq [] none (.leaf) (.seq [] none (.leaf) (.seq [] none (.seq [] none (.leaf) (.region [(13, ⟨[(38, .one (.dat .bool))], [none, none], [], []⟩, false)])) (.leaf)))))) (.leaf))) (.leaf)))))) (.leaf))
def pattern_fits_c (F : Nat) : Ctr E := ⟨pattern_fits_s, fun (x : TPatItem × Int) => pattern_fits F x.1 x.2⟩
theorem pattern_fits_ok (F : Nat) : (pattern_fits_c F).Ok Tryz.prog := Ctr.ok_of (X := ⟨Tryz.prog, tyT, [], [], none⟩) (F := F) ⟨E_ok, okN, mixed, goN, rvN⟩ (pl := pattern_fits_p) Tryz.func244 (by kernel_rfl) (fun x => by kernel_rfl)
def pattern_advance (F : Nat)  (a0 : List TPatItem) (a1 : Int) (a2 : List Bool) : Option ((List Bool) × (List Bool)) :=
 rq ((decide (0 ≤ w64 ((a0.length : Int) + 1))) && ((decide (w64 ((a0.length : Int) + 1) ≤ w64 ((a0.length : Int) + 1))) && ((decide (0 < w64 ((a0.length : Int) + 1))) && ((decide (w64 ((a0.length : Int) + 1) ≤ 9223372036854775807)) && (decide ((1 : Int) * (w64 ((a0.length : Int) + 1)) ≤ 140737488355328)))))) (loopF (σ := Int × (List Bool) × (List Bool)) (R := (List Bool) × (List Bool)) (fun rc2 x1 =>
 cond (decide (x1.1 < (a0.length : Int)))
 (rq ((decide (0 ≤ x1.1)) && (decide (x1.1 < (a0.length : Int)))) (rq ((decide (0 ≤ x1.1)) && (decide (x1.1 < (x1.2.1.length : Int)))) (cond (!(x1.2.1.getD (Int.toNat x1.1) false))
 (rc2 (w64 (x1.1 + 1), x1.2.1, x1.2.2))
 (cond (((a0.getD (Int.toNat x1.1) dTPatItem).fKind) == 3)
 (rq ((decide (0 ≤ x1.1)) && (decide (x1.1 < (x1.2.2.length : Int)))) (rc2 (w64 (x1.1 + 1), x1.2.1, x1.2.2.set (Int.toNat x1.1) true)))
 ((pattern_fits F (a0.getD (Int.toNat x1.1) dTPatItem) a1).bind fun x3 =>
 cond x3
 (rq ((decide (0 ≤ w64 (x1.1 + 1))) && (decide (w64 (x1.1 + 1) < (x1.2.2.length : Int)))) (rc2 (w64 (x1.1 + 1), x1.2.1, x1.2.2.set (Int.toNat (w64 (x1.1 + 1))) true)))
 (rc2 (w64 (x1.1 + 1), x1.2.1, x1.2.2)))))))
 ((pattern_spread F a0 x1.2.2).bind fun x4 =>
 some (x1.2.1, x4))) F (0, a2, List.replicate (Int.toNat (w64 ((a0.length : Int) + 1))) false))
def pattern_advance_s : Shp := ⟨212, [.one (.dat (.lst (.ext 6))), .one (.gso 0), .one (.dat (.int .u8))], [], [(4, 1)], ⟨.one (.gso 1), [], [none, some (4, 1)], [(0, .bool), (1, .bool)]⟩, none, [(0, .bool)]⟩
def pattern_advance_p : Plan := .seq [] none (.leaf) (.seq [] none (.leaf) (.seq [] none (.seq [] none (.leaf) (.loop [] ⟨[(16, .one (.dat (.int .i64)))], [], [none, none], [(0, .bool), (1, .bool)]⟩ (.leaf))) (.leaf)))
def pattern_advance_c (F : Nat) : Ctr E := ⟨pattern_advance_s, fun (x : (List TPatItem) × Int × (List Bool)) => pattern_advance F x.1 x.2.1 x.2.2⟩
theorem pattern_advance_ok (F : Nat) : (pattern_advance_c F).Ok Tryz.prog := Ctr.ok_of (X := ⟨Tryz.prog, tyT, [pattern_spread_c F, pattern_fits_c F], [], none⟩) (F := F) ⟨E_ok, okC (pattern_spread_ok F) (okC (pattern_fits_ok F) (okN)), mixed, goN, rvN⟩ (pl := pattern_advance_p) Tryz.func212 (by kernel_rfl) (fun x => by kernel_rfl)
def slices_Index_2 (F : Nat)  (a0 : List Bool) (a1 : Bool) : Option Int :=
 loopF (σ := Int) (R := Int) (fun rc2 x1 =>
 cond (decide (x1 < (a0.length : Int)))
 (rq ((decide (0 ≤ x1)) && (decide (x1 < (a0.length : Int)))) (cond (a1 == (a0.getD (Int.toNat x1) false))
 (some x1)
 (rc2 (w64 (x1 + 1)))))
 (some (-1))) F 0
def slices_Index_2_s : Shp := ⟨243, [.one (.dat (.lst .bool)), .one (.dat .bool)], [], [], ⟨.one (.dat (.int .i64)), [], [], []⟩, none, []⟩
def slices_Index_2_p : Plan := .seq [] none (.leaf) (.seq [] none (.seq [] none (.leaf) (.loop [] ⟨[(8, .one (.dat (.int .i64)))], [], [], []⟩ (.leaf))) (.leaf))
def slices_Index_2_c (F : Nat) : Ctr E := ⟨slices_Index_2_s, fun (x : (List Bool) × Bool) => slices_Index_2 F x.1 x.2⟩
theorem slices_Index_2_ok (F : Nat) : (slices_Index_2_c F).Ok Tryz.prog := Ctr.ok_of (X := ⟨Tryz.prog, tyT, [], [], none⟩) (F := F) ⟨E_ok, okN, mixed, goN, rvN⟩ (pl := slices_Index_2_p) Tryz.func243 (by kernel_rfl) (fun x => by kernel_rfl)
def slices_Contains_2 (F : Nat)  (a0 : List Bool) (a1 : Bool) : Option Bool :=
 (slices_Index_2 F a0 a1).bind fun x1 =>
 some (decide (0 ≤ x1))
def slices_Contains_2_s : Shp := ⟨211, [.one (.dat (.lst .bool)), .one (.dat .bool)], [], [], ⟨.one (.dat .bool), [], [], []⟩, none, []⟩
def slices_Contains_2_p : Plan := .leaf
def slices_Contains_2_c (F : Nat) : Ctr E := ⟨slices_Contains_2_s, fun (x : (List Bool) × Bool) => slices_Contains_2 F x.1 x.2⟩
theorem slices_Contains_2_ok (F : Nat) : (slices_Contains_2_c F).Ok Tryz.prog := Ctr.ok_of (X := ⟨Tryz.prog, tyT, [slices_Index_2_c F], [], none⟩) (F := F) ⟨E_ok, okC (slices_Index_2_ok F) (okN), mixed, goN, rvN⟩ (pl := slices_Contains_2_p) Tryz.func211 (by kernel_rfl) (fun x => by kernel_rfl)
def pattern_advance_1 (F : Nat)  (a0 : List TPatItem) (a1 : List Bool) (a2 : Int) : Option (List Bool) :=
 rq ((decide (0 ≤ w64 ((a0.length : Int) + 1))) && ((decide (w64 ((a0.length : Int) + 1) ≤ w64 ((a0.length : Int) + 1))) && ((decide (0 < w64 ((a0.length : Int) + 1))) && ((decide (w64 ((a0.length : Int) + 1) ≤ 9223372036854775807)) && (decide ((1 : Int) * (w64 ((a0.length : Int) + 1)) ≤ 140737488355328)))))) (loopF (σ := Int × (List Bool)) (R := List Bool) (fun rc2 x1 =>
 cond (decide (x1.1 < (a0.length : Int)))
 (rq ((decide (0 ≤ x1.1)) && (decide (x1.1 < (a0.length : Int)))) (rq ((decide (0 ≤ x1.1)) && (decide (x1.1 < (a1.length : Int)))) (cond (!(a1.getD (Int.toNat x1.1) false))
 (rc2 (w64 (x1.1 + 1), x1.2))
 (cond (((a0.getD (Int.toNat x1.1) dTPatItem).fKind) == 3)
 (rq ((decide (0 ≤ x1.1)) && (decide (x1.1 < (x1.2.length : Int)))) (rc2 (w64 (x1.1 + 1), x1.2.set (Int.toNat x1.1) true)))
 ((pattern_fits F (a0.getD (Int.toNat x1.1) dTPatItem) a2).bind fun x3 =>
 cond x3
 (rq ((decide (0 ≤ w64 (x1.1 + 1))) && (decide (w64 (x1.1 + 1) < (x1.2.length : Int)))) (rc2 (w64 (x1.1 + 1), x1.2.set (Int.toNat (w64 (x1.1 + 1))) true)))
 (rc2 (w64 (x1.1 + 1), x1.2)))))))
 ((pattern_spread F a0 x1.2).bind fun x4 =>
 some x4)) F (0, List.replicate (Int.toNat (w64 ((a0.length : Int) + 1))) false))
def pattern_advance_1_s : Shp := ⟨212, [.one (.dat (.lst (.ext 6))), .one (.dat (.lst .bool)), .one (.dat (.int .u8))], [], [], ⟨.one (.gso 0), [], [some (4, 1)], [(0, .bool)]⟩, none, []⟩
def pattern_advance_1_p : Plan := .seq [] none (.leaf) (.seq [] none (.leaf) (.seq [] none (.seq [] none (.leaf) (.loop [] ⟨[(16, .one (.dat (.int .i64)))], [], [none], [(0, .bool)]⟩ (.leaf))) (.leaf)))
def pattern_advance_1_c (F : Nat) : Ctr E := ⟨pattern_advance_1_s, fun (x : (List TPatItem) × (List Bool) × Int) => pattern_advance_1 F x.1 x.2.1 x.2.2⟩
theorem pattern_advance_1_ok (F : Nat) : (pattern_advance_1_c F).Ok Tryz.prog := Ctr.ok_of (X := ⟨Tryz.prog, tyT, [pattern_spread_c F, pattern_fits_c F], [], none⟩) (F := F) ⟨E_ok, okC (pattern_spread_ok F) (okC (pattern_fits_ok F) (okN)), mixed, goN, rvN⟩ (pl := pattern_advance_1_p) Tryz.func212 (by kernel_rfl) (fun x => by kernel_rfl)
def pattern_search (F : Nat)  (a0 : List TPatItem) (a1 : List UInt8) (a2 : Int) (a3 : Bool) : Option (Int × Bool) :=
 (pattern_valid F a0).bind fun x1 =>
 cond (!x1)
 (some (0, false))
 (rq ((decide (0 ≤ w64 ((a0.length : Int) + 1))) && ((decide (w64 ((a0.length : Int) + 1) ≤ w64 ((a0.length : Int) + 1))) && ((decide (0 < w64 ((a0.length : Int) + 1))) && ((decide (w64 ((a0.length : Int) + 1) ≤ 9223372036854775807)) && (decide ((1 : Int) * (w64 ((a0.length : Int) + 1)) ≤ 140737488355328)))))) (rq (decide (0 < ((List.replicate (Int.toNat (w64 ((a0.length : Int) + 1))) false).length : Int))) ((pattern_spread F a0 ((List.replicate (Int.toNat (w64 ((a0.length : Int) + 1))) false).set 0 true)).bind fun x2 =>
 (loopF (σ := (List Bool) × Int × Bool × Int) (R := Int × Bool) (fun rc5 x4 =>
 jj (σ := Int × Bool) (R := Int × Bool) ((rq ((decide (0 ≤ (a0.length : Int))) && (decide ((a0.length : Int) < (x4.1.length : Int)))) (cond (x4.1.getD (Int.toNat (a0.length : Int)) false)
 (some (decide (a2 ≤ x4.2.2.2)))
 (some false)) : Option Bool).bind fun x7 =>
 cond x7
 (cond (!a3)
 (some (.inr (x4.2.2.2, true)))
 (some (.inl (x4.2.2.2, true))))
 (some (.inl (x4.2.1, x4.2.2.1)))) fun x6 =>
 (cond (x4.2.2.2 == (a1.length : Int))
 (some true)
 ((slices_Contains_2 F x4.1 true).bind fun x9 =>
 some (!x9)) : Option Bool).bind fun x8 =>
 cond x8
 (some (x6.1, x6.2))
 (rq ((decide (0 ≤ x4.2.2.2)) && (decide (x4.2.2.2 < (a1.length : Int)))) ((pattern_advance_1 F a0 x4.1 ((a1.getD (Int.toNat x4.2.2.2) 0).toNat : Int)).bind fun x10 =>
 rc5 (x10, x6.1, x6.2, w64 (x4.2.2.2 + 1))))) F (x2, 0, false, 0) : Option (Int × Bool)).bind fun x3 =>
 some (x3.1, x3.2))))
def pattern_search_s : Shp := ⟨175, [.one (.dat (.lst (.ext 6))), .one (.dat .str), .one (.dat (.int .i64)), .one (.dat .bool)], [], [], ⟨.tup [.dat (.int .i64), .dat .bool], [], [], []⟩, none, []⟩
def pattern_search_p : Plan := .seq [] none (.leaf) (.seq [] none (.leaf) (.seq [] none (.leaf) (.seq [] none (.leaf) (.seq [] none (.leaf) (.seq [] none (.leaf) (.seq [] none (.leaf) (.seq [] (some (⟨[(11, .one (.dat (.int .i64))), (12, .one (.dat .bool))], [], [none], []⟩, false)) (.seq [] none (.leaf) (.loop [] ⟨[(10, .one (.dat (.lst .bool))), (11, .one (.dat (.int .i64))), (12, .one (.dat .bool)), (13, .one (.dat (.int .i64)))], [], [none], []⟩ (.seq [] none (.seq [] (some (⟨[(11, .one (.dat (.int .i64))), (12, .one (.dat .bool))], [], [none], []⟩, true)) (.seq [] none (.region [(10, ⟨[(37, .one (.dat .bool))], [], [none], []⟩, false)]) (.leaf)) (.seq [] none (.seq [] none (.region [(9, ⟨[(49, .one (.dat .bool))], [], [none], []⟩, false)]) (.leaf)) (.leaf))) (.leaf)))) (.leaf))))))))
def pattern_search_c (F : Nat) : Ctr E := ⟨pattern_search_s, fun (x : (List TPatItem) × (List UInt8) × Int × Bool) => pattern_search F x.1 x.2.1 x.2.2.1 x.2.2.2⟩
theorem pattern_search_ok (F : Nat) : (pattern_search_c F).Ok Tryz.prog := Ctr.ok_of (X := ⟨Tryz.prog, tyT, [pattern_spread_c F, slices_Contains_1_c F, pattern_advance_c F, pattern_valid_c F, slices_Contains_2_c F, pattern_advance_1_c F], [], none⟩) (F := F) ⟨E_ok, okC (pattern_spread_ok F) (okC (slices_Contains_1_ok F) (okC (pattern_advance_ok F) (okC (pattern_valid_ok F) (okC (slices_Contains_2_ok F) (okC (pattern_advance_1_ok F) (okN)))))), mixed, goN, rvN⟩ (pl := pattern_search_p) Tryz.func175 (by kernel_rfl) (fun x => by kernel_rfl)
def pattern_Match (F : Nat)  (a0 : List TPatItem) (a1 : List UInt8) : Option Bool :=
 (pattern_search F a0 a1 (a1.length : Int) true).bind fun x1 =>
 some x1.2
def pattern_Match_s : Shp := ⟨146, [.one (.dat (.lst (.ext 6))), .one (.dat .str)], [], [], ⟨.one (.dat .bool), [], [], []⟩, none, []⟩
def pattern_Match_p : Plan := .leaf
def pattern_Match_c (F : Nat) : Ctr E := ⟨pattern_Match_s, fun (x : (List TPatItem) × (List UInt8)) => pattern_Match F x.1 x.2⟩
theorem pattern_Match_ok (F : Nat) : (pattern_Match_c F).Ok Tryz.prog := Ctr.ok_of (X := ⟨Tryz.prog, tyT, [pattern_search_c F], [], none⟩) (F := F) ⟨E_ok, okC (pattern_search_ok F) (okN), mixed, goN, rvN⟩ (pl := pattern_Match_p) Tryz.func146 (by kernel_rfl) (fun x => by kernel_rfl)
def util_engine_grep (F : Nat)  (a0 : TUtil) (a1 : Twords) (a2 : TAinti648) (a3 : List Int) : Option (TUtil × Twords × TAinti648 × (List Int)) :=
 (util_element F a1.foperands 0).bind fun x1 =>
 (pattern_Compile F ([(TRun.mk x1 2)] : List TRun)).bind fun x2 =>
 (agree (agree (rq ((decide (([(TPatItem.mk 3 [] false [])] : List TPatItem).length + x2.length ≤ 9223372036854775807)) && (decide ((([(TPatItem.mk 3 [] false [])] : List TPatItem).length + x2.length) * 56 ≤ 140737488355328))) (rq ((decide ((([(TPatItem.mk 3 [] false [])] : List TPatItem) ++ x2).length + ([(TPatItem.mk 3 [] false [])] : List TPatItem).length ≤ 9223372036854775807)) && (decide (((([(TPatItem.mk 3 [] false [])] : List TPatItem) ++ x2).length + ([(TPatItem.mk 3 [] false [])] : List TPatItem).length) * 56 ≤ 140737488355328))) (some ((([(TPatItem.mk 3 [] false [])] : List TPatItem) ++ x2) ++ ([(TPatItem.mk 3 [] false [])] : List TPatItem))))) (rq ((decide (([(TPatItem.mk 3 [] false [])] : List TPatItem).length + x2.length ≤ 9223372036854775807)) && (decide ((([(TPatItem.mk 3 [] false [])] : List TPatItem).length + x2.length) * 56 ≤ 140737488355328))) (rq ((decide ((([(TPatItem.mk 3 [] false [])] : List TPatItem) ++ x2).length + ([(TPatItem.mk 3 [] false [])] : List TPatItem).length ≤ 9223372036854775807)) && (decide (((([(TPatItem.mk 3 [] false [])] : List TPatItem) ++ x2).length + ([(TPatItem.mk 3 [] false [])] : List TPatItem).length) * 56 ≤ 140737488355328))) (some ((([(TPatItem.mk 3 [] false [])] : List TPatItem) ++ x2) ++ ([(TPatItem.mk 3 [] false [])] : List TPatItem)))))) (rq ((decide (([(TPatItem.mk 3 [] false [])] : List TPatItem).length + x2.length ≤ 9223372036854775807)) && (decide ((([(TPatItem.mk 3 [] false [])] : List TPatItem).length + x2.length) * 56 ≤ 140737488355328))) (rq ((decide ((([(TPatItem.mk 3 [] false [])] : List TPatItem) ++ x2).length + ([(TPatItem.mk 3 [] false [])] : List TPatItem).length ≤ 9223372036854775807)) && (decide (((([(TPatItem.mk 3 [] false [])] : List TPatItem) ++ x2).length + ([(TPatItem.mk 3 [] false [])] : List TPatItem).length) * 56 ≤ 140737488355328))) (some ((([(TPatItem.mk 3 [] false [])] : List TPatItem) ++ x2) ++ ([(TPatItem.mk 3 [] false [])] : List TPatItem))))) : Option (List TPatItem)).bind fun x3 =>
 ((util_lines F a0.fBuf).bind fun x5 =>
 some x5 : Option (List (List UInt8))).bind fun x4 =>
 loopF (σ := (List (List UInt8)) × Int) (R := TUtil × Twords × TAinti648 × (List Int)) (fun rc7 x6 =>
 cond (decide (x6.2 < (x4.length : Int)))
 (rq ((decide (0 ≤ x6.2)) && (decide (x6.2 < (x4.length : Int)))) ((pattern_Match F x3 (x4.getD (Int.toNat x6.2) [])).bind fun x8 =>
 (util_words_has F a1 118).bind fun x9 =>
 cond (!(x8 == x9))
 (rq ((decide (x6.1.length + ([x4.getD (Int.toNat x6.2) []] : List (List UInt8)).length ≤ 9223372036854775807)) && (decide ((x6.1.length + ([x4.getD (Int.toNat x6.2) []] : List (List UInt8)).length) * 16 ≤ 140737488355328))) (rc7 (x6.1 ++ ([x4.getD (Int.toNat x6.2) []] : List (List UInt8)), w64 (x6.2 + 1))))
 (rc7 (x6.1, w64 (x6.2 + 1)))))
 ((cond (decide (0 < (x6.1.length : Int)))
 (some ({ a0 with fN := 0 }, a1, a2, a3))
 (some ({ a0 with fN := 1 }, a1, a2, a3)) : Option (TUtil × Twords × TAinti648 × (List Int))).bind fun x10 =>
 (cond (x10.2.2.1.2.2.1 != 0)
 (some ({ x10.1 with fN := 2 }, x10.2.1, x10.2.2.1, x10.2.2.2))
 (some (x10.1, x10.2.1, x10.2.2.1, x10.2.2.2)) : Option (TUtil × Twords × TAinti648 × (List Int))).bind fun x11 =>
 (util_words_has F x11.2.1 113).bind fun x12 =>
 cond x12
 (some ({ x11.1 with fState := 4 }, x11.2.1, x11.2.2.1, x11.2.2.2))
 ((util_words_has F x11.2.1 99).bind fun x13 =>
 cond x13
 ((itoaF F (x6.1.length : Int)).bind fun x14 =>
 rq (decide (x14.length + ([10] : List UInt8).length ≤ 9223372036854775807)) ((util_engine_write F 1 (x14 ++ ([10] : List UInt8)) 4 x11.1 x11.2.1 x11.2.2.1 x11.2.2.2).bind fun x15 =>
 some (x15.1, x15.2.1, x15.2.2.1, x15.2.2.2)))
 ((util_joined F x6.1).bind fun x16 =>
 (util_engine_write F 1 x16 4 x11.1 x11.2.1 x11.2.2.1 x11.2.2.2).bind fun x17 =>
 some (x17.1, x17.2.1, x17.2.2.1, x17.2.2.2))))) F (([] : List (List UInt8)), 0)
def util_engine_grep_s : Shp := ⟨110, [.one (.ptr 0 0)], [(bt0)], [(3, 1)], ⟨.tup [], [some (bt0)], [none], []⟩, none, []⟩
def util_engine_grep_p : Plan := .seq [] none (.leaf) (.seq [] none (.leaf) (.seq [] none (.drawF [1] ⟨[(3, .one (.dat (.lst (.ext 6))))], [none, none], [none, none], []⟩ (.step 0 true (.step 2 true (.step 4 true (.fork 1 (.fork 3 (.step 5 false (.step 6 false (.step 7 false .done))) 5 (.step 3 false (.step 6 false (.step 7 false .done)))) 5 (.step 1 false (.step 3 false (.step 6 false (.step 7 false .done))))))))) (.seq [] none (.leaf) (.seq [.slot 4 9 .str] none (.seq [] none (.region [(6, ⟨[(29, .one (.dat (.lst .str)))], [none, none], [none, none, none], []⟩, false)]) (.loop [] ⟨[(4, .one (.gsl 2 .str)), (31, .one (.dat (.int .i64)))], [none, none], [none, none, some (9, 1)], []⟩ (.seq [] none (.leaf) (.seq [] none (.leaf) (.seq [] none (.seq [] none (.leaf) (.seq [] none (.drawP [0] [] [⟨[(0, true), (1, true), (3, true), (4, true), (5, true), (6, true), (2, false), (7, false), (8, false)], none⟩]) (.leaf))) (.leaf)))))) (.seq [] none (.leaf) (.seq [] (some (⟨[], [some (bt0), none], [none, none, none], []⟩, false)) (.leaf) (.seq [] (some (⟨[], [some (bt0), none], [none, none, none], []⟩, false)) (.leaf) (.leaf))))))))
def util_engine_grep_c (F : Nat) : Ctr E := ⟨util_engine_grep_s, fun (x : TUtil × Twords × TAinti648 × (List Int)) => util_engine_grep F x.1 x.2.1 x.2.2.1 x.2.2.2⟩
theorem util_engine_grep_ok (F : Nat) : (util_engine_grep_c F).Ok Tryz.prog := Ctr.ok_of (X := ⟨Tryz.prog, tyT, [util_element_c F, pattern_Compile_c F, util_lines_c F, pattern_Match_c F, util_words_has_c F, strconvItoa_c F, util_engine_write_c F, util_joined_c F], [], none⟩) (F := F) ⟨E_ok, okC (util_element_ok F) (okC (pattern_Compile_ok F) (okC (util_lines_ok F) (okC (pattern_Match_ok F) (okC (util_words_has_ok F) (okC (strconvItoa_ok F) (okC (util_engine_write_ok F) (okC (util_joined_ok F) (okN)))))))), mixed, goN, rvN⟩ (pl := util_engine_grep_p) Tryz.func110 (by kernel_rfl) (fun x => by kernel_rfl)
def util_joined_1 (F : Nat)  (a0 : List (List UInt8)) : Option ((List UInt8) × (List (List UInt8))) :=
 loopF (σ := Int × Bool × (List Int) × (List (List UInt8))) (R := (List UInt8) × (List (List UInt8))) (fun rc2 x1 =>
 cond (decide (x1.1 < (a0.length : Int)))
 (rq ((decide (0 ≤ x1.1)) && (decide (x1.1 < (x1.2.2.2.length : Int)))) ((strings_Builder_WriteString F (x1.2.2.2.getD (Int.toNat x1.1) []) x1.2.1 x1.2.2.1).bind fun x3 =>
 (strings_Builder_WriteByte F 10 x3.2.1 x3.2.2).bind fun x4 =>
 rc2 (w64 (x1.1 + 1), x4.1, x4.2, x1.2.2.2)))
 ((strings_Builder_String F x1.2.1 x1.2.2.1).bind fun x5 =>
 some (x5, x1.2.2.2))) F (0, false, ([] : List Int), a0)
def util_joined_1_s : Shp := ⟨99, [.one (.gso 0)], [], [(9, 1)], ⟨.one (.dat .str), [], [none], [(0, .str)]⟩, none, [(0, .str)]⟩
def util_joined_1_p : Plan := .seq [] none (.leaf) (.seq [] none (.leaf) (.seq [.cell 0 1 5 (.int .u8)] none (.seq [] none (.leaf) (.loop [] ⟨[(8, .one (.dat (.int .i64)))], [some (.cells 130 [.optr 0 0, .gsl 1 (.int .u8)])], [none, some (5, 1)], [(0, .str)]⟩ (.leaf))) (.leaf)))
def util_joined_1_c (F : Nat) : Ctr E := ⟨util_joined_1_s, fun (x : List (List UInt8)) => util_joined_1 F x⟩
theorem util_joined_1_ok (F : Nat) : (util_joined_1_c F).Ok Tryz.prog := Ctr.ok_of (X := ⟨Tryz.prog, tyT, [strings_Builder_WriteString_c F, strings_Builder_WriteByte_c F, strings_Builder_String_c F], [], none⟩) (F := F) ⟨E_ok, okC (strings_Builder_WriteString_ok F) (okC (strings_Builder_WriteByte_ok F) (okC (strings_Builder_String_ok F) (okN))), mixed, goN, rvN⟩ (pl := util_joined_1_p) Tryz.func99 (by kernel_rfl) (fun x => by kernel_rfl)
def util_engine_finish (F : Nat)  (a0 : TUtil) (a1 : Twords) (a2 : TAinti648) (a3 : List Int) : Option (TUtil × Twords × TAinti648 × (List Int)) :=
 cond (a0.fName == ([116, 97, 105, 108] : List UInt8))
 (((util_lines F a0.fBuf).bind fun x2 =>
 some x2 : Option (List (List UInt8))).bind fun x1 =>
 rq ((decide (0 ≤ cond (decide (w64 ((x1.length : Int) - a1.fcount) < 0)) 0 (w64 ((x1.length : Int) - a1.fcount)))) && ((decide (cond (decide (w64 ((x1.length : Int) - a1.fcount) < 0)) 0 (w64 ((x1.length : Int) - a1.fcount)) ≤ (x1.length : Int))) && (decide ((x1.length : Int) ≤ (x1.length : Int))))) ((util_joined F (sl x1 (cond (decide (w64 ((x1.length : Int) - a1.fcount) < 0)) 0 (w64 ((x1.length : Int) - a1.fcount))) (x1.length : Int))).bind fun x3 =>
 (util_engine_write F 1 x3 3 a0 a1 a2 a3).bind fun x4 =>
 some (x4.1, x4.2.1, x4.2.2.1, x4.2.2.2)))
 (cond (a0.fName == ([119, 99] : List UInt8))
 ((util_engine_counts F a0 a1 a2 a3).bind fun x5 =>
 rq (decide (x5.length + ([10] : List UInt8).length ≤ 9223372036854775807)) ((util_engine_write F 1 (x5 ++ ([10] : List UInt8)) 3 a0 a1 a2 a3).bind fun x6 =>
 some (x6.1, x6.2.1, x6.2.2.1, x6.2.2.2)))
 (cond (a0.fName == ([115, 111, 114, 116] : List UInt8))
 ((util_engine_sorted F a0 a1 a2 a3).bind fun x7 =>
 (util_joined F x7).bind fun x8 =>
 (util_engine_write F 1 x8 3 a0 a1 a2 a3).bind fun x9 =>
 some (x9.1, x9.2.1, x9.2.2.1, x9.2.2.2))
 (cond (a0.fName == ([117, 110, 105, 113] : List UInt8))
 ((util_engine_unique F a0 a1 a2 a3).bind fun x10 =>
 (util_joined F x10).bind fun x11 =>
 (util_engine_write F 1 x11 3 a0 a1 a2 a3).bind fun x12 =>
 some (x12.1, x12.2.1, x12.2.2.1, x12.2.2.2))
 (cond (a0.fName == ([103, 114, 101, 112] : List UInt8))
 ((util_engine_grep F a0 a1 a2 a3).bind fun x13 =>
 some (x13.1, x13.2.1, x13.2.2.1, x13.2.2.2))
 (cond (a0.fName == ([114, 101, 118] : List UInt8))
 ((util_lines F a0.fBuf).bind fun x14 =>
 loopF (σ := Int × (List (List UInt8))) (R := TUtil × Twords × TAinti648 × (List Int)) (fun rc16 x15 =>
 cond (decide (x15.1 < (x14.length : Int)))
 (rq ((decide (0 ≤ x15.1)) && (decide (x15.1 < (x15.2.length : Int)))) (rq (decide ((x15.2.getD (Int.toNat x15.1) []).length ≤ 9223372036854775807)) (rq ((decide (0 ≤ x15.1)) && (decide (x15.1 < (x15.2.length : Int)))) (rc16 (w64 (x15.1 + 1), x15.2.set (Int.toNat x15.1) ((x15.2.getD (Int.toNat x15.1) []).reverse))))))
 ((util_joined_1 F x15.2).bind fun x17 =>
 (util_engine_write F 1 x17.1 3 a0 a1 a2 a3).bind fun x18 =>
 some (x18.1, x18.2.1, x18.2.2.1, x18.2.2.2))) F (0, x14))
 (some ({ a0 with fState := 3 }, a1, a2, a3)))))))
def util_engine_finish_s : Shp := ⟨67, [.one (.ptr 0 0)], [(bt0)], [(3, 1)], ⟨.tup [], [some (bt0)], [none], []⟩, none, []⟩
def util_engine_finish_p : Plan := .seq [] none (.leaf) (.seq [] none (.leaf) (.cond (.seq [] none (.region [(6, ⟨[(23, .one (.dat (.lst .str)))], [none], [none], []⟩, false)]) (.leaf)) (.seq [] none (.leaf) (.cond (.leaf) (.seq [] none (.leaf) (.cond (.leaf) (.seq [] none (.leaf) (.cond (.leaf) (.seq [] none (.leaf) (.cond (.leaf) (.seq [] none (.leaf) (.cond (.seq [] none (.leaf) (.seq [] none (.seq [] none (.leaf) (.loop [] ⟨[(73, .one (.dat (.int .i64)))], [none], [none, none], [(1, .str)]⟩ (.seq [] none (.leaf) (.seq [] none (.leaf) (.seq [] none (.seq [] none (.leaf) (.rev)) (.leaf)))))) (.leaf))) (.leaf)))))))))))))
def util_engine_finish_c (F : Nat) : Ctr E := ⟨util_engine_finish_s, fun (x : TUtil × Twords × TAinti648 × (List Int)) => util_engine_finish F x.1 x.2.1 x.2.2.1 x.2.2.2⟩
theorem util_engine_finish_ok (F : Nat) : (util_engine_finish_c F).Ok Tryz.prog := Ctr.ok_of (X := ⟨Tryz.prog, tyT, [util_joined_1_c F, util_lines_c F, util_joined_c F, util_engine_write_c F, util_engine_counts_c F, util_engine_sorted_c F, util_engine_unique_c F, util_engine_grep_c F], [], some 111⟩) (F := F) ⟨E_ok, okC (util_joined_1_ok F) (okC (util_lines_ok F) (okC (util_joined_ok F) (okC (util_engine_write_ok F) (okC (util_engine_counts_ok F) (okC (util_engine_sorted_ok F) (okC (util_engine_unique_ok F) (okC (util_engine_grep_ok F) (okN)))))))), mixed, goN, rvS rvAt⟩ (pl := util_engine_finish_p) Tryz.func67 (by kernel_rfl) (fun x => by kernel_rfl)
def util_engine_head (F : Nat)  (a0 : List UInt8) (a1 : TUtil) (a2 : Twords) (a3 : TAinti648) (a4 : List Int) : Option (TUtil × Twords × TAinti648 × (List Int)) :=
 loopF (σ := Int × TUtil × Twords × TAinti648 × (List Int)) (R := TUtil × Twords × TAinti648 × (List Int)) (fun rc2 x1 =>
 cond (decide (x1.1 < (a0.length : Int)))
 (rq ((decide (0 ≤ x1.1)) && (decide (x1.1 < (a0.length : Int)))) (cond (((a0.getD (Int.toNat x1.1) 0).toNat : Int) != 10)
 (rc2 (w64 (x1.1 + 1), x1.2.1, x1.2.2.1, x1.2.2.2.1, x1.2.2.2.2))
 (cond ((w64 (x1.2.2.2.1.2.2.2.2.2.2.1 - 1)) == 0)
 (rq ((decide (0 ≤ w64 (x1.1 + 1))) && (decide (w64 (x1.1 + 1) ≤ (a0.length : Int)))) ((util_engine_write F 1 (sl a0 0 (w64 (x1.1 + 1))) 15 x1.2.1 x1.2.2.1 (x1.2.2.2.1.1, (x1.2.2.2.1.2.1, (x1.2.2.2.1.2.2.1, (x1.2.2.2.1.2.2.2.1, (x1.2.2.2.1.2.2.2.2.1, (x1.2.2.2.1.2.2.2.2.2.1, (w64 (x1.2.2.2.1.2.2.2.2.2.2.1 - 1), (1, ())))))))) x1.2.2.2.2).bind fun x3 =>
 some (x3.1, x3.2.1, x3.2.2.1, x3.2.2.2)))
 (rc2 (w64 (x1.1 + 1), x1.2.1, x1.2.2.1, (x1.2.2.2.1.1, (x1.2.2.2.1.2.1, (x1.2.2.2.1.2.2.1, (x1.2.2.2.1.2.2.2.1, (x1.2.2.2.1.2.2.2.2.1, (x1.2.2.2.1.2.2.2.2.2.1, (w64 (x1.2.2.2.1.2.2.2.2.2.2.1 - 1), x1.2.2.2.1.2.2.2.2.2.2.2))))))), x1.2.2.2.2)))))
 ((util_engine_write F 1 a0 12 x1.2.1 x1.2.2.1 x1.2.2.2.1 x1.2.2.2.2).bind fun x4 =>
 some (x4.1, x4.2.1, x4.2.2.1, x4.2.2.2))) F (0, a1, a2, a3, a4)
def util_engine_head_s : Shp := ⟨147, [.one (.ptr 0 0), .one (.dat .str)], [(bt0)], [(3, 1)], ⟨.tup [], [some (bt0)], [none], []⟩, none, []⟩
def util_engine_head_p : Plan := .seq [] none (.seq [] none (.leaf) (.loop [] ⟨[(4, .one (.dat (.int .i64)))], [some (bt0)], [none], []⟩ (.seq [] none (.leaf) (.seq [] none (.seq [] none (.leaf) (.seq [] none (.draw [⟨true, 9, none⟩, ⟨false, 1, none⟩]) (.leaf))) (.leaf))))) (.leaf)
def util_engine_head_c (F : Nat) : Ctr E := ⟨util_engine_head_s, fun (x : (List UInt8) × TUtil × Twords × TAinti648 × (List Int)) => util_engine_head F x.1 x.2.1 x.2.2.1 x.2.2.2.1 x.2.2.2.2⟩
theorem util_engine_head_ok (F : Nat) : (util_engine_head_c F).Ok Tryz.prog := Ctr.ok_of (X := ⟨Tryz.prog, tyT, [util_engine_write_c F], [], none⟩) (F := F) ⟨E_ok, okC (util_engine_write_ok F) (okN), mixed, goN, rvN⟩ (pl := util_engine_head_p) Tryz.func147 (by kernel_rfl) (fun x => by kernel_rfl)
def util_engine_consume (F : Nat)  (a0 : List UInt8) (a1 : TUtil) (a2 : Twords) (a3 : TAinti648) (a4 : List Int) : Option (TUtil × Twords × TAinti648 × (List Int)) :=
 cond (a1.fName == ([99, 97, 116] : List UInt8))
 ((util_engine_write F 1 a0 12 a1 a2 a3 a4).bind fun x1 =>
 some (x1.1, x1.2.1, x1.2.2.1, x1.2.2.2))
 (cond (a1.fName == ([104, 101, 97, 100] : List UInt8))
 ((util_engine_head F a0 a1 a2 a3 a4).bind fun x2 =>
 some (x2.1, x2.2.1, x2.2.2.1, x2.2.2.2))
 (cond (a1.fName == ([116, 101, 101] : List UInt8))
 ((util_engine_write F 1 a0 14 ({ a1 with fBuf := a0 }) a2 (a3.1, (a3.2.1, (a3.2.2.1, (a3.2.2.2.1, (a3.2.2.2.2.1, (0, a3.2.2.2.2.2.2)))))) a4).bind fun x3 =>
 some (x3.1, x3.2.1, x3.2.2.1, x3.2.2.2))
 (cond (a1.fName == ([99, 112] : List UInt8))
 ((util_engine_write F a3.2.2.2.2.2.1 a0 27 a1 a2 a3 a4).bind fun x4 =>
 some (x4.1, x4.2.1, x4.2.2.1, x4.2.2.2))
 (cond (decide (65536 < w64 ((a1.fBuf.length : Int) + (a0.length : Int))))
 ((util_engine_report F ([105, 110, 112, 117, 116] : List UInt8) 3 4 ({ a1 with fN := 1 }) a2 a3 a4).bind fun x5 =>
 some (x5.1, x5.2.1, x5.2.2.1, x5.2.2.2))
 (rq (decide (a1.fBuf.length + a0.length ≤ 9223372036854775807)) (some ({ a1 with fState := 12, fBuf := a1.fBuf ++ a0 }, a2, a3, a4)))))))
def util_engine_consume_s : Shp := ⟨112, [.one (.ptr 0 0), .one (.dat .str)], [(bt0)], [(3, 1)], ⟨.tup [], [some (bt0)], [none], []⟩, none, []⟩
def util_engine_consume_p : Plan := .seq [] none (.leaf) (.seq [] none (.leaf) (.cond (.leaf) (.seq [] none (.leaf) (.cond (.leaf) (.seq [] none (.leaf) (.cond (.seq [] none (.drawP [] [] [⟨[(0, true), (1, true), (2, true), (3, true), (4, true), (5, true), (7, true), (8, true), (6, false), (9, false), (10, false)], none⟩]) (.leaf)) (.leaf)))))))
def util_engine_consume_c (F : Nat) : Ctr E := ⟨util_engine_consume_s, fun (x : (List UInt8) × TUtil × Twords × TAinti648 × (List Int)) => util_engine_consume F x.1 x.2.1 x.2.2.1 x.2.2.2.1 x.2.2.2.2⟩
theorem util_engine_consume_ok (F : Nat) : (util_engine_consume_c F).Ok Tryz.prog := Ctr.ok_of (X := ⟨Tryz.prog, tyT, [util_engine_write_c F, util_engine_head_c F, util_engine_report_c F], [], none⟩) (F := F) ⟨E_ok, okC (util_engine_write_ok F) (okC (util_engine_head_ok F) (okC (util_engine_report_ok F) (okN))), mixed, goN, rvN⟩ (pl := util_engine_consume_p) Tryz.func112 (by kernel_rfl) (fun x => by kernel_rfl)
def util_engine_got (F : Nat)  (a0 : List UInt8) (a1 : TAns) (a2 : TUtil) (a3 : Twords) (a4 : TAinti648) (a5 : List Int) : Option (TUtil × Twords × TAinti648 × (List Int)) :=
 (cond (a2.fName == ([99, 112] : List UInt8))
 (some 28)
 (some 15) : Option Int).bind fun x1 =>
 cond (a1.fErr != 0)
 ((util_engine_fail F a0 a1.fErr x1 a2 a3 a4 a5).bind fun x2 =>
 some (x2.1, x2.2.1, x2.2.2.1, x2.2.2.2))
 (cond (a1.fData == [])
 (some ({ a2 with fState := x1 }, a3, a4, a5))
 ((util_engine_consume F a1.fData a2 a3 a4 a5).bind fun x3 =>
 some (x3.1, x3.2.1, x3.2.2.1, x3.2.2.2)))
def util_engine_got_s : Shp := ⟨69, [.one (.ptr 0 0), .one (.dat .str), .one (.dat (.ext 1))], [(bt0)], [(3, 1)], ⟨.tup [], [some (bt0)], [none], []⟩, none, []⟩
def util_engine_got_p : Plan := .seq [] none (.leaf) (.seq [] none (.leaf) (.seq [] (some (⟨[(6, .one (.dat (.int .i64)))], [none, none], [none], []⟩, false)) (.leaf) (.leaf)))
def util_engine_got_c (F : Nat) : Ctr E := ⟨util_engine_got_s, fun (x : (List UInt8) × TAns × TUtil × Twords × TAinti648 × (List Int)) => util_engine_got F x.1 x.2.1 x.2.2.1 x.2.2.2.1 x.2.2.2.2.1 x.2.2.2.2.2⟩
theorem util_engine_got_ok (F : Nat) : (util_engine_got_c F).Ok Tryz.prog := Ctr.ok_of (X := ⟨Tryz.prog, tyT, [util_engine_fail_c F, util_engine_consume_c F], [], none⟩) (F := F) ⟨E_ok, okC (util_engine_fail_ok F) (okC (util_engine_consume_ok F) (okN)), mixed, goN, rvN⟩ (pl := util_engine_got_p) Tryz.func69 (by kernel_rfl) (fun x => by kernel_rfl)
def util_engine_share (F : Nat)  (a0 : TUtil) (a1 : Twords) (a2 : TAinti648) (a3 : List Int) : Option (TReq × Bool × TUtil × Twords × TAinti648 × (List Int)) :=
 (cond (decide (a2.2.2.2.2.2.1 < 0))
 (some true)
 (some (decide ((a3.length : Int) ≤ a2.2.2.2.2.2.1))) : Option Bool).bind fun x1 =>
 cond x1
 ((util_engine_move F 12 a0 a1 a2 a3).bind fun x2 =>
 some (x2.1, x2.2.1, x2.2.2.1, x2.2.2.2.1, x2.2.2.2.2.1, x2.2.2.2.2.2))
 (rq ((decide (0 ≤ a2.2.2.2.2.2.1)) && (decide (a2.2.2.2.2.2.1 < (a3.length : Int)))) ((util_engine_write F (a3.getD (Int.toNat a2.2.2.2.2.2.1) 0) a0.fBuf 14 a0 a1 (a2.1, (a2.2.1, (a2.2.2.1, (a2.2.2.2.1, (a2.2.2.2.2.1, (w64 (a2.2.2.2.2.2.1 + 1), a2.2.2.2.2.2.2)))))) a3).bind fun x3 =>
 some ((TReq.mk 0 0 0 0 0 0 0 0 [] [] [] []), false, x3.1, x3.2.1, x3.2.2.1, x3.2.2.2)))
def util_engine_share_s : Shp := ⟨70, [.one (.ptr 0 0)], [(bt0)], [(3, 1)], ⟨.tup [.dat (.ext 3), .dat .bool], [some (bt0)], [none], []⟩, none, []⟩
def util_engine_share_p : Plan := .seq [] none (.leaf) (.seq [] none (.leaf) (.seq [] none (.seq [] none (.region [(11, ⟨[(20, .one (.dat .bool))], [none, none], [none], []⟩, false)]) (.leaf)) (.seq [] none (.draw [⟨true, 9, none⟩, ⟨false, 1, none⟩]) (.seq [] none (.draw [⟨true, 13, none⟩, ⟨false, 1, none⟩]) (.leaf)))))
def util_engine_share_c (F : Nat) : Ctr E := ⟨util_engine_share_s, fun (x : TUtil × Twords × TAinti648 × (List Int)) => util_engine_share F x.1 x.2.1 x.2.2.1 x.2.2.2⟩
theorem util_engine_share_ok (F : Nat) : (util_engine_share_c F).Ok Tryz.prog := Ctr.ok_of (X := ⟨Tryz.prog, tyT, [util_engine_move_c F, util_engine_write_c F], [], none⟩) (F := F) ⟨E_ok, okC (util_engine_move_ok F) (okC (util_engine_write_ok F) (okN)), mixed, goN, rvN⟩ (pl := util_engine_share_p) Tryz.func70 (by kernel_rfl) (fun x => by kernel_rfl)
def util_engine_open (F : Nat)  (a0 : TAns) (a1 : TUtil) (a2 : Twords) (a3 : TAinti648) (a4 : List Int) : Option (TReq × Bool × TUtil × Twords × TAinti648 × (List Int)) :=
 (util_element F a2.foperands a3.2.2.2.1).bind fun x1 =>
 cond (a1.fState == 17)
 (cond (decide ((a2.foperands.length : Int) ≤ a3.2.2.2.1))
 ((util_engine_move F 10 a1 a2 (a3.1, (a3.2.1, (a3.2.2.1, (0, a3.2.2.2.2)))) a4).bind fun x2 =>
 some (x2.1, x2.2.1, x2.2.2.1, x2.2.2.2.1, x2.2.2.2.2.1, x2.2.2.2.2.2))
 (((util_words_has F a2 97).bind fun x4 =>
 cond x4
 (some 14)
 (some 26) : Option Int).bind fun x3 =>
 (util_engine_ask F 18 (TReq.mk 3 0 0 0 0 0 3 x3 x1 [] [] []) a1 a2 a3 a4).bind fun x5 =>
 some (x5.1, x5.2.1, x5.2.2.1, x5.2.2.2.1, x5.2.2.2.2.1, x5.2.2.2.2.2)))
 (cond (a0.fErr != 0)
 ((util_engine_fail F x1 a0.fErr 17 a1 a2 (a3.1, (a3.2.1, (a3.2.2.1, (w64 (a3.2.2.2.1 + 1), a3.2.2.2.2)))) a4).bind fun x6 =>
 some ((TReq.mk 0 0 0 0 0 0 0 0 [] [] [] []), false, x6.1, x6.2.1, x6.2.2.1, x6.2.2.2))
 (rq ((decide (a4.length + ([a0.fFd] : List Int).length ≤ 9223372036854775807)) && (decide ((a4.length + ([a0.fFd] : List Int).length) * 8 ≤ 140737488355328))) ((util_engine_move F 17 a1 a2 (a3.1, (a3.2.1, (a3.2.2.1, (w64 (a3.2.2.2.1 + 1), a3.2.2.2.2)))) (a4 ++ ([a0.fFd] : List Int))).bind fun x7 =>
 some (x7.1, x7.2.1, x7.2.2.1, x7.2.2.2.1, x7.2.2.2.2.1, x7.2.2.2.2.2))))
def util_engine_open_s : Shp := ⟨71, [.one (.ptr 0 0), .one (.dat (.ext 1))], [(bt0)], [(3, 1)], ⟨.tup [.dat (.ext 3), .dat .bool], [some (bt0)], [some (3, 1)], []⟩, none, []⟩
def util_engine_open_p : Plan := .seq [] none (.leaf) (.seq [] none (.leaf) (.seq [] none (.leaf) (.seq [] none (.seq [] none (.leaf) (.cond (.seq [] none (.leaf) (.seq [] none (.leaf) (.seq [] (some (⟨[(8, .one (.dat (.int .i64)))], [none, none, none], [none], []⟩, false)) (.leaf) (.leaf)))) (.leaf))) (.seq [] none (.draw [⟨true, 9, none⟩, ⟨false, 1, none⟩]) (.seq [] none (.leaf) (.seq [] none (.drawP [0, 1] [11] [⟨[(0, true), (1, true), (2, true), (3, true), (4, true), (5, true), (6, true), (7, false), (8, false), (9, false), (10, false), (11, false)], none⟩]) (.leaf)))))))
def util_engine_open_c (F : Nat) : Ctr E := ⟨util_engine_open_s, fun (x : TAns × TUtil × Twords × TAinti648 × (List Int)) => util_engine_open F x.1 x.2.1 x.2.2.1 x.2.2.2.1 x.2.2.2.2⟩
theorem util_engine_open_ok (F : Nat) : (util_engine_open_c F).Ok Tryz.prog := Ctr.ok_of (X := ⟨Tryz.prog, tyT, [util_element_c F, util_engine_move_c F, util_words_has_c F, util_engine_ask_c F, util_engine_fail_c F], [], none⟩) (F := F) ⟨E_ok, okC (util_element_ok F) (okC (util_engine_move_ok F) (okC (util_words_has_ok F) (okC (util_engine_ask_ok F) (okC (util_engine_fail_ok F) (okN))))), mixed, goN, rvN⟩ (pl := util_engine_open_p) Tryz.func71 (by kernel_rfl) (fun x => by kernel_rfl)
def util_engine_stream (F : Nat)  (a0 : TAns) (a1 : TUtil) (a2 : Twords) (a3 : TAinti648) (a4 : List Int) : Option (TReq × Bool × TUtil × Twords × TAinti648 × (List Int)) :=
 (util_engine_inputs F a1 a2 a3 a4).bind fun x1 =>
 (util_element F x1 a3.2.2.2.1).bind fun x2 =>
 cond (a1.fState == 10)
 ((cond (decide ((x1.length : Int) ≤ a3.2.2.2.1))
 (some true)
 (some (a3.2.2.2.2.2.2.2.1 != 0)) : Option Bool).bind fun x3 =>
 cond x3
 ((util_engine_finish F a1 a2 a3 a4).bind fun x4 =>
 some ((TReq.mk 0 0 0 0 0 0 0 0 [] [] [] []), false, x4.1, x4.2.1, x4.2.2.1, x4.2.2.2))
 (cond (x2 == ([45] : List UInt8))
 ((util_engine_move F 12 a1 a2 (a3.1, (a3.2.1, (a3.2.2.1, (a3.2.2.2.1, (0, a3.2.2.2.2.2))))) a4).bind fun x5 =>
 some (x5.1, x5.2.1, x5.2.2.1, x5.2.2.2.1, x5.2.2.2.2.1, x5.2.2.2.2.2))
 ((util_engine_ask F 11 (TReq.mk 3 0 0 0 0 0 3 1 x2 [] [] []) a1 a2 a3 a4).bind fun x6 =>
 some (x6.1, x6.2.1, x6.2.2.1, x6.2.2.2.1, x6.2.2.2.2.1, x6.2.2.2.2.2))))
 (cond (a1.fState == 11)
 (cond (a0.fErr != 0)
 ((util_engine_fail F x2 a0.fErr 10 a1 a2 (a3.1, (a3.2.1, (a3.2.2.1, (w64 (a3.2.2.2.1 + 1), a3.2.2.2.2)))) a4).bind fun x7 =>
 some ((TReq.mk 0 0 0 0 0 0 0 0 [] [] [] []), false, x7.1, x7.2.1, x7.2.2.1, x7.2.2.2))
 ((util_engine_move F 12 a1 a2 (a3.1, (a3.2.1, (a3.2.2.1, (a3.2.2.2.1, (a0.fFd, a3.2.2.2.2.2))))) a4).bind fun x8 =>
 some (x8.1, x8.2.1, x8.2.2.1, x8.2.2.2.1, x8.2.2.2.2.1, x8.2.2.2.2.2)))
 (cond (a1.fState == 12)
 ((util_engine_ask F 13 (TReq.mk 1 a3.2.2.2.2.1 0 0 0 0 32 0 [] [] [] []) a1 a2 a3 a4).bind fun x9 =>
 some (x9.1, x9.2.1, x9.2.2.1, x9.2.2.2.1, x9.2.2.2.2.1, x9.2.2.2.2.2))
 (cond (a1.fState == 13)
 ((util_engine_got F x2 a0 a1 a2 a3 a4).bind fun x10 =>
 some ((TReq.mk 0 0 0 0 0 0 0 0 [] [] [] []), false, x10.1, x10.2.1, x10.2.2.1, x10.2.2.2))
 (cond (a1.fState == 14)
 ((util_engine_share F a1 a2 a3 a4).bind fun x11 =>
 some (x11.1, x11.2.1, x11.2.2.1, x11.2.2.2.1, x11.2.2.2.2.1, x11.2.2.2.2.2))
 (cond (a1.fState == 15)
 (cond (!(x2 == ([45] : List UInt8)))
 ((util_engine_ask F 16 (TReq.mk 4 a3.2.2.2.2.1 0 0 0 0 0 0 [] [] [] []) a1 a2 a3 a4).bind fun x12 =>
 some (x12.1, x12.2.1, x12.2.2.1, x12.2.2.2.1, x12.2.2.2.2.1, x12.2.2.2.2.2))
 ((util_engine_move F 16 a1 a2 a3 a4).bind fun x13 =>
 some (x13.1, x13.2.1, x13.2.2.1, x13.2.2.2.1, x13.2.2.2.2.1, x13.2.2.2.2.2)))
 (cond (a1.fState == 16)
 ((util_engine_move F 10 a1 a2 (a3.1, (a3.2.1, (a3.2.2.1, (w64 (a3.2.2.2.1 + 1), a3.2.2.2.2)))) a4).bind fun x14 =>
 some (x14.1, x14.2.1, x14.2.2.1, x14.2.2.2.1, x14.2.2.2.2.1, x14.2.2.2.2.2))
 ((util_engine_open F a0 a1 a2 a3 a4).bind fun x15 =>
 some (x15.1, x15.2.1, x15.2.2.1, x15.2.2.2.1, x15.2.2.2.2.1, x15.2.2.2.2.2))))))))
def util_engine_stream_s : Shp := ⟨40, [.one (.ptr 0 0), .one (.dat (.ext 1))], [(bt0)], [(3, 1)], ⟨.tup [.dat (.ext 3), .dat .bool], [some (bt0)], [some (3, 1)], []⟩, none, []⟩
def util_engine_stream_p : Plan := .seq [] none (.leaf) (.seq [] none (.drawP [0] [] [⟨[(0, true), (2, true), (3, true), (4, true), (5, true), (6, true), (1, false), (7, false), (8, false)], none⟩]) (.seq [] none (.leaf) (.seq [] none (.seq [] none (.leaf) (.seq [] none (.leaf) (.cond (.seq [] none (.seq [] none (.region [(12, ⟨[(42, .one (.dat .bool))], [none, none, none], [none], []⟩, false)]) (.leaf)) (.leaf)) (.seq [] none (.leaf) (.cond (.seq [] none (.seq [] none (.leaf) (.cond (.seq [] none (.draw [⟨true, 9, none⟩, ⟨false, 1, none⟩]) (.leaf)) (.leaf))) (.seq [] none (.draw [⟨true, 6, none⟩, ⟨false, 1, none⟩]) (.leaf))) (.seq [] none (.leaf) (.cond (.leaf) (.seq [] none (.leaf) (.cond (.leaf) (.seq [] none (.leaf) (.cond (.leaf) (.seq [] none (.leaf) (.cond (.leaf) (.seq [] none (.leaf) (.cond (.seq [] none (.draw [⟨true, 9, none⟩, ⟨false, 1, none⟩]) (.leaf)) (.leaf)))))))))))))))) (.leaf))))
def util_engine_stream_c (F : Nat) : Ctr E := ⟨util_engine_stream_s, fun (x : TAns × TUtil × Twords × TAinti648 × (List Int)) => util_engine_stream F x.1 x.2.1 x.2.2.1 x.2.2.2.1 x.2.2.2.2⟩
theorem util_engine_stream_ok (F : Nat) : (util_engine_stream_c F).Ok Tryz.prog := Ctr.ok_of (X := ⟨Tryz.prog, tyT, [util_engine_inputs_c F, util_element_c F, util_engine_finish_c F, util_engine_move_c F, util_engine_ask_c F, util_engine_fail_c F, util_engine_got_c F, util_engine_share_c F, util_engine_open_c F], [], none⟩) (F := F) ⟨E_ok, okC (util_engine_inputs_ok F) (okC (util_element_ok F) (okC (util_engine_finish_ok F) (okC (util_engine_move_ok F) (okC (util_engine_ask_ok F) (okC (util_engine_fail_ok F) (okC (util_engine_got_ok F) (okC (util_engine_share_ok F) (okC (util_engine_open_ok F) (okN))))))))), mixed, goN, rvN⟩ (pl := util_engine_stream_p) Tryz.func40 (by kernel_rfl) (fun x => by kernel_rfl)
def util_engine_targets (F : Nat)  (a0 : TUtil) (a1 : Twords) (a2 : TAinti648) (a3 : List Int) : Option ((List (List UInt8)) × Int) :=
 (cond (decide (1 < (a1.foperands.length : Int)))
 (rq (decide (0 < (a1.foperands.length : Int))) ((strings_HasPrefix F (a1.foperands.getD 0 []) ([45] : List UInt8)).bind fun x2 =>
 some x2))
 (some false) : Option Bool).bind fun x1 =>
 cond x1
 (rq (decide (0 < (a1.foperands.length : Int))) (rq ((decide (1 ≤ ((a1.foperands.getD 0 []).length : Int))) && (decide (((a1.foperands.getD 0 []).length : Int) ≤ ((a1.foperands.getD 0 []).length : Int)))) ((chars_Digits F (sl (a1.foperands.getD 0 []) 1 ((a1.foperands.getD 0 []).length : Int))).bind fun x3 =>
 cond x3.2
 (rq ((decide (1 ≤ (a1.foperands.length : Int))) && (decide ((a1.foperands.length : Int) ≤ (a1.foperands.length : Int)))) (some (sl a1.foperands 1 (a1.foperands.length : Int), x3.1)))
 (some (a1.foperands, 15)))))
 (some (a1.foperands, 15))
def util_engine_targets_s : Shp := ⟨113, [.one (.ptr 0 0)], [(bt0)], [(3, 1)], ⟨.tup [.dat (.lst .str), .dat (.int .i64)], [none], [none], []⟩, none, []⟩
def util_engine_targets_p : Plan := .seq [] none (.leaf) (.seq [] none (.leaf) (.seq [] none (.seq [] none (.region [(9, ⟨[(20, .one (.dat .bool))], [none], [none], []⟩, false)]) (.leaf)) (.leaf)))
def util_engine_targets_c (F : Nat) : Ctr E := ⟨util_engine_targets_s, fun (x : TUtil × Twords × TAinti648 × (List Int)) => util_engine_targets F x.1 x.2.1 x.2.2.1 x.2.2.2⟩
theorem util_engine_targets_ok (F : Nat) : (util_engine_targets_c F).Ok Tryz.prog := Ctr.ok_of (X := ⟨Tryz.prog, tyT, [strings_HasPrefix_c F, chars_Digits_c F], [], none⟩) (F := F) ⟨E_ok, okC (strings_HasPrefix_ok F) (okC (chars_Digits_ok F) (okN)), mixed, goN, rvN⟩ (pl := util_engine_targets_p) Tryz.func113 (by kernel_rfl) (fun x => by kernel_rfl)
def util_engine_items (F : Nat)  (a0 : TUtil) (a1 : Twords) (a2 : TAinti648) (a3 : List Int) : Option (List (List UInt8)) :=
 cond (a0.fName == ([107, 105, 108, 108] : List UInt8))
 ((util_engine_targets F a0 a1 a2 a3).bind fun x1 =>
 some x1.1)
 ((cond (a0.fName == ([108, 115] : List UInt8))
 (some ((a1.foperands.length : Int) == 0))
 (some false) : Option Bool).bind fun x2 =>
 cond x2
 (some ([([46] : List UInt8)] : List (List UInt8)))
 (some a1.foperands))
def util_engine_items_s : Shp := ⟨72, [.one (.ptr 0 0)], [(bt0)], [(3, 1)], ⟨.one (.dat (.lst .str)), [none], [none], []⟩, none, []⟩
def util_engine_items_p : Plan := .seq [] none (.leaf) (.seq [] none (.leaf) (.seq [] none (.seq [] none (.leaf) (.cond (.leaf) (.seq [] none (.region [(11, ⟨[(32, .one (.dat .bool))], [none], [none], []⟩, false)]) (.leaf)))) (.leaf)))
def util_engine_items_c (F : Nat) : Ctr E := ⟨util_engine_items_s, fun (x : TUtil × Twords × TAinti648 × (List Int)) => util_engine_items F x.1 x.2.1 x.2.2.1 x.2.2.2⟩
theorem util_engine_items_ok (F : Nat) : (util_engine_items_c F).Ok Tryz.prog := Ctr.ok_of (X := ⟨Tryz.prog, tyT, [util_engine_targets_c F], [], none⟩) (F := F) ⟨E_ok, okC (util_engine_targets_ok F) (okN), mixed, goN, rvN⟩ (pl := util_engine_items_p) Tryz.func72 (by kernel_rfl) (fun x => by kernel_rfl)
def util_engine_problem (F : Nat)  (a0 : List UInt8) (a1 : Int) (a2 : TUtil) (a3 : Twords) (a4 : TAinti648) (a5 : List Int) : Option (TReq × Bool × TUtil × Twords × TAinti648 × (List Int)) :=
 (util_engine_fail F a0 a1 19 a2 a3 (a4.1, (a4.2.1, (a4.2.2.1, (w64 (a4.2.2.2.1 + 1), a4.2.2.2.2)))) a5).bind fun x1 =>
 some ((TReq.mk 0 0 0 0 0 0 0 0 [] [] [] []), false, x1.1, x1.2.1, x1.2.2.1, x1.2.2.2)
def util_engine_problem_s : Shp := ⟨75, [.one (.ptr 0 0), .one (.dat .str), .one (.dat (.int .i64))], [(bt0)], [(3, 1)], ⟨.tup [.dat (.ext 3), .dat .bool], [some (bt0)], [none], []⟩, none, []⟩
def util_engine_problem_p : Plan := .seq [] none (.leaf) (.seq [] none (.draw [⟨true, 9, none⟩, ⟨false, 1, none⟩]) (.leaf))
def util_engine_problem_c (F : Nat) : Ctr E := ⟨util_engine_problem_s, fun (x : (List UInt8) × Int × TUtil × Twords × TAinti648 × (List Int)) => util_engine_problem F x.1 x.2.1 x.2.2.1 x.2.2.2.1 x.2.2.2.2.1 x.2.2.2.2.2⟩
theorem util_engine_problem_ok (F : Nat) : (util_engine_problem_c F).Ok Tryz.prog := Ctr.ok_of (X := ⟨Tryz.prog, tyT, [util_engine_fail_c F], [], none⟩) (F := F) ⟨E_ok, okC (util_engine_fail_ok F) (okN), mixed, goN, rvN⟩ (pl := util_engine_problem_p) Tryz.func75 (by kernel_rfl) (fun x => by kernel_rfl)
def util_engine_first (F : Nat)  (a0 : List UInt8) (a1 : TUtil) (a2 : Twords) (a3 : TAinti648) (a4 : List Int) : Option (TReq × Bool × TUtil × Twords × TAinti648 × (List Int)) :=
 cond (a1.fName == ([116, 111, 117, 99, 104] : List UInt8))
 ((util_engine_ask F 20 (TReq.mk 3 0 0 0 0 0 3 10 a0 [] [] []) a1 a2 a3 a4).bind fun x1 =>
 some (x1.1, x1.2.1, x1.2.2.1, x1.2.2.2.1, x1.2.2.2.2.1, x1.2.2.2.2.2))
 (cond (a1.fName == ([109, 107, 100, 105, 114] : List UInt8))
 ((util_engine_ask F 21 (TReq.mk 17 0 0 0 0 0 0 0 a0 [] [] []) a1 a2 a3 a4).bind fun x2 =>
 some (x2.1, x2.2.1, x2.2.2.1, x2.2.2.2.1, x2.2.2.2.2.1, x2.2.2.2.2.2))
 (cond (a1.fName == ([108, 115] : List UInt8))
 ((util_engine_ask F 20 (TReq.mk 20 0 0 0 0 0 0 0 a0 [] [] []) a1 a2 a3 a4).bind fun x3 =>
 some (x3.1, x3.2.1, x3.2.2.1, x3.2.2.2.1, x3.2.2.2.2.1, x3.2.2.2.2.2))
 (cond (a1.fName == ([107, 105, 108, 108] : List UInt8))
 ((util_engine_targets F a1 a2 a3 a4).bind fun x4 =>
 (util_integer F a0).bind fun x5 =>
 cond (!x5.2)
 ((util_engine_problem F a0 1 a1 a2 a3 a4).bind fun x6 =>
 some (x6.1, x6.2.1, x6.2.2.1, x6.2.2.2.1, x6.2.2.2.2.1, x6.2.2.2.2.2))
 ((util_engine_ask F 21 (TReq.mk 11 0 0 x5.1 0 x4.2 0 0 [] [] [] []) a1 a2 a3 a4).bind fun x7 =>
 some (x7.1, x7.2.1, x7.2.2.1, x7.2.2.2.1, x7.2.2.2.2.1, x7.2.2.2.2.2)))
 ((util_engine_ask F 20 (TReq.mk 21 0 0 0 0 0 0 0 a0 [] [] []) a1 a2 a3 a4).bind fun x8 =>
 some (x8.1, x8.2.1, x8.2.2.1, x8.2.2.2.1, x8.2.2.2.2.1, x8.2.2.2.2.2)))))
def util_engine_first_s : Shp := ⟨73, [.one (.ptr 0 0), .one (.dat .str)], [(bt0)], [(3, 1)], ⟨.tup [.dat (.ext 3), .dat .bool], [some (bt0)], [none], []⟩, none, []⟩
def util_engine_first_p : Plan := .leaf
def util_engine_first_c (F : Nat) : Ctr E := ⟨util_engine_first_s, fun (x : (List UInt8) × TUtil × Twords × TAinti648 × (List Int)) => util_engine_first F x.1 x.2.1 x.2.2.1 x.2.2.2.1 x.2.2.2.2⟩
theorem util_engine_first_ok (F : Nat) : (util_engine_first_c F).Ok Tryz.prog := Ctr.ok_of (X := ⟨Tryz.prog, tyT, [util_engine_ask_c F, util_engine_targets_c F, util_integer_c F, util_engine_problem_c F], [], none⟩) (F := F) ⟨E_ok, okC (util_engine_ask_ok F) (okC (util_engine_targets_ok F) (okC (util_integer_ok F) (okC (util_engine_problem_ok F) (okN)))), mixed, goN, rvN⟩ (pl := util_engine_first_p) Tryz.func73 (by kernel_rfl) (fun x => by kernel_rfl)
def util_engine_list (F : Nat)  (a0 : List UInt8) (a1 : TAns) (a2 : TUtil) (a3 : Twords) (a4 : TAinti648) (a5 : List Int) : Option (TReq × Bool × TUtil × Twords × TAinti648 × (List Int)) :=
 jj (σ := List (List UInt8)) (R := TReq × Bool × TUtil × Twords × TAinti648 × (List Int)) (cond (a1.fErr == 0)
 (loopF (σ := (List (List UInt8)) × Int) (R := (List (List UInt8)) ⊕ (TReq × Bool × TUtil × Twords × TAinti648 × (List Int))) (fun rc3 x2 =>
 cond (decide (x2.2 < (a1.fNames.length : Int)))
 (rq ((decide (0 ≤ x2.2)) && (decide (x2.2 < (a1.fNames.length : Int)))) ((strings_HasPrefix F (a1.fNames.getD (Int.toNat x2.2) []) ([46] : List UInt8)).bind fun x4 =>
 cond (!x4)
 (rq ((decide (x2.1.length + ([a1.fNames.getD (Int.toNat x2.2) []] : List (List UInt8)).length ≤ 9223372036854775807)) && (decide ((x2.1.length + ([a1.fNames.getD (Int.toNat x2.2) []] : List (List UInt8)).length) * 16 ≤ 140737488355328))) (rc3 (x2.1 ++ ([a1.fNames.getD (Int.toNat x2.2) []] : List (List UInt8)), w64 (x2.2 + 1))))
 (rc3 (x2.1, w64 (x2.2 + 1)))))
 (some (.inl x2.1))) F (([] : List (List UInt8)), 0))
 (cond (a1.fErr == 18)
 (some (.inl ([a0] : List (List UInt8))))
 ((util_engine_problem F a0 a1.fErr a2 a3 a4 a5).bind fun x5 =>
 some (.inr (x5.1, x5.2.1, x5.2.2.1, x5.2.2.2.1, x5.2.2.2.2.1, x5.2.2.2.2.2))))) fun x1 =>
 (util_joined F x1).bind fun x6 =>
 (util_engine_write F 1 x6 19 a2 a3 (a4.1, (a4.2.1, (a4.2.2.1, (w64 (a4.2.2.2.1 + 1), a4.2.2.2.2)))) a5).bind fun x7 =>
 some ((TReq.mk 0 0 0 0 0 0 0 0 [] [] [] []), false, x7.1, x7.2.1, x7.2.2.1, x7.2.2.2)
def util_engine_list_s : Shp := ⟨114, [.one (.ptr 0 0), .one (.dat .str), .one (.dat (.ext 1))], [(bt0)], [(3, 1)], ⟨.tup [.dat (.ext 3), .dat .bool], [some (bt0)], [none], []⟩, none, []⟩
def util_engine_list_p : Plan := .seq [] none (.leaf) (.seq [] none (.leaf) (.seq [.slot 8 9 .str] (some (⟨[(8, .one (.gsl 1 .str))], [none, none, none], [none, some (9, 1)], []⟩, true)) (.seq [] none (.leaf) (.seq [] none (.leaf) (.cond (.seq [] none (.leaf) (.loop [] ⟨[(8, .one (.gsl 1 .str)), (25, .one (.dat (.int .i64)))], [none, none, none], [none, some (9, 1)], []⟩ (.leaf))) (.leaf)))) (.seq [] none (.draw [⟨true, 9, none⟩, ⟨false, 1, none⟩]) (.leaf))))
def util_engine_list_c (F : Nat) : Ctr E := ⟨util_engine_list_s, fun (x : (List UInt8) × TAns × TUtil × Twords × TAinti648 × (List Int)) => util_engine_list F x.1 x.2.1 x.2.2.1 x.2.2.2.1 x.2.2.2.2.1 x.2.2.2.2.2⟩
theorem util_engine_list_ok (F : Nat) : (util_engine_list_c F).Ok Tryz.prog := Ctr.ok_of (X := ⟨Tryz.prog, tyT, [strings_HasPrefix_c F, util_engine_problem_c F, util_joined_c F, util_engine_write_c F], [], none⟩) (F := F) ⟨E_ok, okC (strings_HasPrefix_ok F) (okC (util_engine_problem_ok F) (okC (util_joined_ok F) (okC (util_engine_write_ok F) (okN)))), mixed, goN, rvN⟩ (pl := util_engine_list_p) Tryz.func114 (by kernel_rfl) (fun x => by kernel_rfl)
def util_engine_second (F : Nat)  (a0 : List UInt8) (a1 : TAns) (a2 : TUtil) (a3 : Twords) (a4 : TAinti648) (a5 : List Int) : Option (TReq × Bool × TUtil × Twords × TAinti648 × (List Int)) :=
 jj (σ := TAns) (R := TReq × Bool × TUtil × Twords × TAinti648 × (List Int)) (cond (a2.fName == ([108, 115] : List UInt8))
 ((util_engine_list F a0 a1 a2 a3 a4 a5).bind fun x2 =>
 some (.inr (x2.1, x2.2.1, x2.2.2.1, x2.2.2.2.1, x2.2.2.2.2.1, x2.2.2.2.2.2)))
 (cond (a2.fName == ([114, 109] : List UInt8))
 ((cond (a1.fErr == 8)
 ((util_words_has F a3 102).bind fun x4 =>
 some x4)
 (some false) : Option Bool).bind fun x3 =>
 cond x3
 ((util_engine_move F 22 a2 a3 a4 a5).bind fun x5 =>
 some (.inr (x5.1, x5.2.1, x5.2.2.1, x5.2.2.2.1, x5.2.2.2.2.1, x5.2.2.2.2.2)))
 ((cond (a1.fErr == 0)
 (some a1.fDir)
 (some false) : Option Bool).bind fun x6 =>
 cond x6
 (some (.inl ({ a1 with fErr := 17 })))
 (some (.inl a1))))
 (cond (a2.fName == ([114, 109, 100, 105, 114] : List UInt8))
 ((cond (a1.fErr == 0)
 (some (!a1.fDir))
 (some false) : Option Bool).bind fun x7 =>
 cond x7
 (some (.inl ({ a1 with fErr := 18 })))
 (some (.inl a1)))
 (some (.inl a1))))) fun x1 =>
 cond (x1.fErr != 0)
 ((util_engine_problem F a0 x1.fErr a2 a3 a4 a5).bind fun x8 =>
 some (x8.1, x8.2.1, x8.2.2.1, x8.2.2.2.1, x8.2.2.2.2.1, x8.2.2.2.2.2))
 (cond (a2.fName == ([116, 111, 117, 99, 104] : List UInt8))
 ((util_engine_ask F 22 (TReq.mk 4 x1.fFd 0 0 0 0 0 0 [] [] [] []) a2 a3 a4 a5).bind fun x9 =>
 some (x9.1, x9.2.1, x9.2.2.1, x9.2.2.2.1, x9.2.2.2.2.1, x9.2.2.2.2.2))
 ((util_engine_ask F 21 (TReq.mk 18 0 0 0 0 0 0 0 a0 [] [] []) a2 a3 a4 a5).bind fun x10 =>
 some (x10.1, x10.2.1, x10.2.2.1, x10.2.2.2.1, x10.2.2.2.2.1, x10.2.2.2.2.2)))
def util_engine_second_s : Shp := ⟨74, [.one (.ptr 0 0), .one (.dat .str), .one (.dat (.ext 1))], [(bt0)], [(3, 1)], ⟨.tup [.dat (.ext 3), .dat .bool], [some (bt0)], [none], []⟩, none, []⟩
def util_engine_second_p : Plan := .seq [] none (.leaf) (.seq [] (some (⟨[], [none, some (.cells 50 [.pk (.ext 1)]), none], [none], []⟩, true)) (.seq [] none (.leaf) (.seq [] none (.leaf) (.cond (.leaf) (.seq [] none (.leaf) (.cond (.seq [] none (.seq [] none (.region [(10, ⟨[(32, .one (.dat .bool))], [none, none, none], [none], []⟩, false)]) (.leaf)) (.seq [] none (.region [(7, ⟨[(43, .one (.dat .bool))], [none, none, none], [none], []⟩, false)]) (.leaf))) (.seq [] none (.leaf) (.cond (.seq [] none (.region [(8, ⟨[(54, .one (.dat .bool))], [none, none, none], [none], []⟩, false)]) (.leaf)) (.leaf)))))))) (.leaf))
def util_engine_second_c (F : Nat) : Ctr E := ⟨util_engine_second_s, fun (x : (List UInt8) × TAns × TUtil × Twords × TAinti648 × (List Int)) => util_engine_second F x.1 x.2.1 x.2.2.1 x.2.2.2.1 x.2.2.2.2.1 x.2.2.2.2.2⟩
theorem util_engine_second_ok (F : Nat) : (util_engine_second_c F).Ok Tryz.prog := Ctr.ok_of (X := ⟨Tryz.prog, tyT, [util_engine_list_c F, util_words_has_c F, util_engine_move_c F, util_engine_problem_c F, util_engine_ask_c F], [], none⟩) (F := F) ⟨E_ok, okC (util_engine_list_ok F) (okC (util_words_has_ok F) (okC (util_engine_move_ok F) (okC (util_engine_problem_ok F) (okC (util_engine_ask_ok F) (okN))))), mixed, goN, rvN⟩ (pl := util_engine_second_p) Tryz.func74 (by kernel_rfl) (fun x => by kernel_rfl)
def util_engine_file (F : Nat)  (a0 : TAns) (a1 : TUtil) (a2 : Twords) (a3 : TAinti648) (a4 : List Int) : Option (TReq × Bool × TUtil × Twords × TAinti648 × (List Int)) :=
 (util_engine_items F a1 a2 a3 a4).bind fun x1 =>
 (util_element F x1 a3.2.2.2.1).bind fun x2 =>
 jj (σ := Unit) (R := TReq × Bool × TUtil × Twords × TAinti648 × (List Int)) (cond (a1.fState == 19)
 (cond (decide ((x1.length : Int) ≤ a3.2.2.2.1))
 ((util_engine_move F 3 a1 a2 a3 a4).bind fun x4 =>
 some (.inr (x4.1, x4.2.1, x4.2.2.1, x4.2.2.2.1, x4.2.2.2.2.1, x4.2.2.2.2.2)))
 ((util_engine_first F x2 a1 a2 a3 a4).bind fun x5 =>
 some (.inr (x5.1, x5.2.1, x5.2.2.1, x5.2.2.2.1, x5.2.2.2.2.1, x5.2.2.2.2.2))))
 (cond (a1.fState == 20)
 ((util_engine_second F x2 a0 a1 a2 a3 a4).bind fun x6 =>
 some (.inr (x6.1, x6.2.1, x6.2.2.1, x6.2.2.2.1, x6.2.2.2.2.1, x6.2.2.2.2.2)))
 (cond (a1.fState == 21)
 (cond (a0.fErr != 0)
 ((util_engine_problem F x2 a0.fErr a1 a2 a3 a4).bind fun x7 =>
 some (.inr (x7.1, x7.2.1, x7.2.2.1, x7.2.2.2.1, x7.2.2.2.2.1, x7.2.2.2.2.2)))
 (some (.inl ())))
 (some (.inl ()))))) fun _ =>
 (util_engine_move F 19 a1 a2 (a3.1, (a3.2.1, (a3.2.2.1, (w64 (a3.2.2.2.1 + 1), a3.2.2.2.2)))) a4).bind fun x8 =>
 some (x8.1, x8.2.1, x8.2.2.1, x8.2.2.2.1, x8.2.2.2.2.1, x8.2.2.2.2.2)
def util_engine_file_s : Shp := ⟨41, [.one (.ptr 0 0), .one (.dat (.ext 1))], [(bt0)], [(3, 1)], ⟨.tup [.dat (.ext 3), .dat .bool], [some (bt0)], [none], []⟩, none, []⟩
def util_engine_file_p : Plan := .seq [] none (.leaf) (.seq [] none (.drawP [0] [] [⟨[(0, true), (2, true), (3, true), (4, true), (5, true), (6, true), (1, false), (7, false), (8, false)], none⟩]) (.seq [] none (.leaf) (.seq [] (some (⟨[], [none, none, none], [none], []⟩, true)) (.leaf) (.seq [] none (.draw [⟨true, 9, none⟩, ⟨false, 1, none⟩]) (.leaf)))))
def util_engine_file_c (F : Nat) : Ctr E := ⟨util_engine_file_s, fun (x : TAns × TUtil × Twords × TAinti648 × (List Int)) => util_engine_file F x.1 x.2.1 x.2.2.1 x.2.2.2.1 x.2.2.2.2⟩
theorem util_engine_file_ok (F : Nat) : (util_engine_file_c F).Ok Tryz.prog := Ctr.ok_of (X := ⟨Tryz.prog, tyT, [util_engine_items_c F, util_element_c F, util_engine_move_c F, util_engine_first_c F, util_engine_second_c F, util_engine_problem_c F], [], none⟩) (F := F) ⟨E_ok, okC (util_engine_items_ok F) (okC (util_element_ok F) (okC (util_engine_move_ok F) (okC (util_engine_first_ok F) (okC (util_engine_second_ok F) (okC (util_engine_problem_ok F) (okN)))))), mixed, goN, rvN⟩ (pl := util_engine_file_p) Tryz.func41 (by kernel_rfl) (fun x => by kernel_rfl)
def stringslite_HasSuffix (F : Nat)  (a0 : List UInt8) (a1 : List UInt8) : Option Bool :=
 (cond (decide ((a1.length : Int) ≤ (a0.length : Int)))
 (rq ((decide (0 ≤ w64 ((a0.length : Int) - (a1.length : Int)))) && ((decide (w64 ((a0.length : Int) - (a1.length : Int)) ≤ (a0.length : Int))) && (decide ((a0.length : Int) ≤ (a0.length : Int))))) (some ((sl a0 (w64 ((a0.length : Int) - (a1.length : Int))) (a0.length : Int)) == a1)))
 (some false) : Option Bool).bind fun x1 =>
 some x1
def stringslite_HasSuffix_s : Shp := ⟨148, [.one (.dat .str), .one (.dat .str)], [], [], ⟨.one (.dat .bool), [], [], []⟩, none, []⟩
def stringslite_HasSuffix_p : Plan := .seq [] none (.leaf) (.seq [] none (.region [(16, ⟨[(20, .one (.dat .bool))], [], [], []⟩, false)]) (.leaf))
def stringslite_HasSuffix_c (F : Nat) : Ctr E := ⟨stringslite_HasSuffix_s, fun (x : (List UInt8) × (List UInt8)) => stringslite_HasSuffix F x.1 x.2⟩
theorem stringslite_HasSuffix_ok (F : Nat) : (stringslite_HasSuffix_c F).Ok Tryz.prog := Ctr.ok_of (X := ⟨Tryz.prog, tyT, [], [], none⟩) (F := F) ⟨E_ok, okN, mixed, goN, rvN⟩ (pl := stringslite_HasSuffix_p) Tryz.func148 (by kernel_rfl) (fun x => by kernel_rfl)
def stringslite_TrimSuffix (F : Nat)  (a0 : List UInt8) (a1 : List UInt8) : Option (List UInt8) :=
 (stringslite_HasSuffix F a0 a1).bind fun x1 =>
 cond x1
 (rq ((decide (0 ≤ w64 ((a0.length : Int) - (a1.length : Int)))) && (decide (w64 ((a0.length : Int) - (a1.length : Int)) ≤ (a0.length : Int)))) (some (sl a0 0 (w64 ((a0.length : Int) - (a1.length : Int))))))
 (some a0)
def stringslite_TrimSuffix_s : Shp := ⟨115, [.one (.dat .str), .one (.dat .str)], [], [], ⟨.one (.dat .str), [], [], []⟩, none, []⟩
def stringslite_TrimSuffix_p : Plan := .leaf
def stringslite_TrimSuffix_c (F : Nat) : Ctr E := ⟨stringslite_TrimSuffix_s, fun (x : (List UInt8) × (List UInt8)) => stringslite_TrimSuffix F x.1 x.2⟩
theorem stringslite_TrimSuffix_ok (F : Nat) : (stringslite_TrimSuffix_c F).Ok Tryz.prog := Ctr.ok_of (X := ⟨Tryz.prog, tyT, [stringslite_HasSuffix_c F], [], none⟩) (F := F) ⟨E_ok, okC (stringslite_HasSuffix_ok F) (okN), mixed, goN, rvN⟩ (pl := stringslite_TrimSuffix_p) Tryz.func115 (by kernel_rfl) (fun x => by kernel_rfl)
def strings_TrimSuffix (F : Nat)  (a0 : List UInt8) (a1 : List UInt8) : Option (List UInt8) :=
 (stringslite_TrimSuffix F a0 a1).bind fun x1 =>
 some x1
def strings_TrimSuffix_s : Shp := ⟨76, [.one (.dat .str), .one (.dat .str)], [], [], ⟨.one (.dat .str), [], [], []⟩, none, []⟩
def strings_TrimSuffix_p : Plan := .leaf
def strings_TrimSuffix_c (F : Nat) : Ctr E := ⟨strings_TrimSuffix_s, fun (x : (List UInt8) × (List UInt8)) => strings_TrimSuffix F x.1 x.2⟩
theorem strings_TrimSuffix_ok (F : Nat) : (strings_TrimSuffix_c F).Ok Tryz.prog := Ctr.ok_of (X := ⟨Tryz.prog, tyT, [stringslite_TrimSuffix_c F], [], none⟩) (F := F) ⟨E_ok, okC (stringslite_TrimSuffix_ok F) (okN), mixed, goN, rvN⟩ (pl := strings_TrimSuffix_p) Tryz.func76 (by kernel_rfl) (fun x => by kernel_rfl)
def util_engine_transfer (F : Nat)  (a0 : TAns) (a1 : TUtil) (a2 : Twords) (a3 : TAinti648) (a4 : List Int) : Option (TReq × Bool × TUtil × Twords × TAinti648 × (List Int)) :=
 (util_element F a2.foperands 0).bind fun x1 =>
 (util_element F a2.foperands 1).bind fun x2 =>
 cond (a1.fState == 25)
 (cond (a0.fErr != 0)
 ((util_engine_report F x1 a0.fErr 4 ({ a1 with fN := 1 }) a2 a3 a4).bind fun x3 =>
 some ((TReq.mk 0 0 0 0 0 0 0 0 [] [] [] []), false, x3.1, x3.2.1, x3.2.2.1, x3.2.2.2))
 ((util_engine_ask F 23 (TReq.mk 21 0 0 0 0 0 0 0 x2 [] [] []) a1 a2 (a3.1, (a3.2.1, (a3.2.2.1, (a3.2.2.2.1, (a0.fFd, a3.2.2.2.2.2))))) a4).bind fun x4 =>
 some (x4.1, x4.2.1, x4.2.2.1, x4.2.2.2.1, x4.2.2.2.2.1, x4.2.2.2.2.2)))
 (cond (a1.fState == 23)
 (((cond (a0.fErr == 0)
 (some a0.fDir)
 (some false) : Option Bool).bind fun x6 =>
 cond x6
 ((strings_TrimSuffix F x2 ([47] : List UInt8)).bind fun x7 =>
 rq (decide (x7.length + ([47] : List UInt8).length ≤ 9223372036854775807)) ((libF F x1 47).bind fun x8 =>
 rq ((decide (0 ≤ w64 (x8 + 1))) && ((decide (w64 (x8 + 1) ≤ (x1.length : Int))) && (decide ((x1.length : Int) ≤ (x1.length : Int))))) (rq (decide ((x7 ++ ([47] : List UInt8)).length + (sl x1 (w64 (x8 + 1)) (x1.length : Int)).length ≤ 9223372036854775807)) (some ({ a1 with fBuf := (x7 ++ ([47] : List UInt8)) ++ (sl x1 (w64 (x8 + 1)) (x1.length : Int)) }, a2, a3, a4)))))
 (some ({ a1 with fBuf := x2 }, a2, a3, a4)) : Option (TUtil × Twords × TAinti648 × (List Int))).bind fun x5 =>
 cond (x5.1.fName == ([109, 118] : List UInt8))
 ((util_engine_ask F 24 (TReq.mk 19 0 0 0 0 0 0 0 x1 x5.1.fBuf [] []) x5.1 x5.2.1 x5.2.2.1 x5.2.2.2).bind fun x9 =>
 some (x9.1, x9.2.1, x9.2.2.1, x9.2.2.2.1, x9.2.2.2.2.1, x9.2.2.2.2.2))
 ((util_engine_ask F 26 (TReq.mk 3 0 0 0 0 0 3 26 x5.1.fBuf [] [] []) x5.1 x5.2.1 x5.2.2.1 x5.2.2.2).bind fun x10 =>
 some (x10.1, x10.2.1, x10.2.2.1, x10.2.2.2.1, x10.2.2.2.2.1, x10.2.2.2.2.2)))
 (cond (a1.fState == 24)
 ((util_engine_result F x1 a0.fErr a1 a2 a3 a4).bind fun x11 =>
 some ((TReq.mk 0 0 0 0 0 0 0 0 [] [] [] []), false, x11.1, x11.2.1, x11.2.2.1, x11.2.2.2))
 (cond (a1.fState == 26)
 (cond (a0.fErr != 0)
 ((util_engine_fail F a1.fBuf a0.fErr 28 a1 a2 (a3.1, (a3.2.1, (a3.2.2.1, (a3.2.2.2.1, (a3.2.2.2.2.1, (a3.2.2.2.2.2.1, (a3.2.2.2.2.2.2.1, (1, ())))))))) a4).bind fun x12 =>
 some ((TReq.mk 0 0 0 0 0 0 0 0 [] [] [] []), false, x12.1, x12.2.1, x12.2.2.1, x12.2.2.2))
 ((util_engine_move F 12 a1 a2 (a3.1, (a3.2.1, (a3.2.2.1, (a3.2.2.2.1, (a3.2.2.2.2.1, (a0.fFd, a3.2.2.2.2.2.2)))))) a4).bind fun x13 =>
 some (x13.1, x13.2.1, x13.2.2.1, x13.2.2.2.1, x13.2.2.2.2.1, x13.2.2.2.2.2)))
 (cond (a1.fState == 27)
 (cond (a3.2.2.1 != 0)
 ((util_engine_move F 28 a1 a2 a3 a4).bind fun x14 =>
 some (x14.1, x14.2.1, x14.2.2.1, x14.2.2.2.1, x14.2.2.2.2.1, x14.2.2.2.2.2))
 ((util_engine_move F 12 a1 a2 a3 a4).bind fun x15 =>
 some (x15.1, x15.2.1, x15.2.2.1, x15.2.2.2.1, x15.2.2.2.2.1, x15.2.2.2.2.2)))
 (cond (a1.fState == 28)
 ((cond (a3.2.2.2.2.2.2.2.1 != 0)
 (some 3)
 (some 29) : Option Int).bind fun x16 =>
 (util_engine_ask F x16 (TReq.mk 4 a3.2.2.2.2.1 0 0 0 0 0 0 [] [] [] []) a1 a2 a3 a4).bind fun x17 =>
 some (x17.1, x17.2.1, x17.2.2.1, x17.2.2.2.1, x17.2.2.2.2.1, x17.2.2.2.2.2))
 (cond (a1.fState == 29)
 ((util_engine_ask F 3 (TReq.mk 4 a3.2.2.2.2.2.1 0 0 0 0 0 0 [] [] [] []) a1 a2 a3 a4).bind fun x18 =>
 some (x18.1, x18.2.1, x18.2.2.1, x18.2.2.2.1, x18.2.2.2.2.1, x18.2.2.2.2.2))
 (some ((TReq.mk 0 0 0 0 0 0 0 0 [] [] [] []), false, a1, a2, a3, a4))))))))
def util_engine_transfer_s : Shp := ⟨42, [.one (.ptr 0 0), .one (.dat (.ext 1))], [(bt0)], [(3, 1)], ⟨.tup [.dat (.ext 3), .dat .bool], [some (bt0)], [none], []⟩, none, []⟩
def util_engine_transfer_p : Plan := .seq [] none (.leaf) (.seq [] none (.drawP [0] [] [⟨[(0, true), (1, true), (2, true), (3, true), (4, true), (6, true), (7, true), (8, true), (9, true), (10, true), (5, false), (11, false), (12, false), (13, false)], none⟩]) (.seq [] none (.seq [] none (.leaf) (.seq [] none (.leaf) (.cond (.seq [] none (.leaf) (.seq [] none (.draw [⟨true, 6, none⟩, ⟨false, 1, none⟩]) (.leaf))) (.seq [] none (.leaf) (.cond (.seq [] none (.leaf) (.seq [] (some (⟨[], [some (bt0), none, none], [none], []⟩, false)) (.seq [] none (.region [(7, ⟨[(66, .one (.dat .bool))], [none, none, none], [none], []⟩, false)]) (.leaf)) (.leaf))) (.seq [] none (.leaf) (.cond (.leaf) (.seq [] none (.leaf) (.cond (.seq [] none (.seq [] none (.leaf) (.cond (.seq [] none (.leaf) (.seq [] none (.draw [⟨true, 8, none⟩, ⟨false, 1, none⟩]) (.leaf))) (.leaf))) (.seq [] none (.draw [⟨true, 6, none⟩, ⟨false, 1, none⟩]) (.leaf))) (.seq [] none (.leaf) (.cond (.leaf) (.seq [] none (.leaf) (.cond (.seq [] none (.leaf) (.seq [] (some (⟨[(9, .one (.dat (.int .i64)))], [none, none, none], [none], []⟩, false)) (.leaf) (.leaf))) (.leaf)))))))))))))) (.leaf)))
def util_engine_transfer_c (F : Nat) : Ctr E := ⟨util_engine_transfer_s, fun (x : TAns × TUtil × Twords × TAinti648 × (List Int)) => util_engine_transfer F x.1 x.2.1 x.2.2.1 x.2.2.2.1 x.2.2.2.2⟩
theorem util_engine_transfer_ok (F : Nat) : (util_engine_transfer_c F).Ok Tryz.prog := Ctr.ok_of (X := ⟨Tryz.prog, tyT, [util_element_c F, util_engine_report_c F, util_engine_ask_c F, strings_TrimSuffix_c F, stringsLastIndexByte_c F, util_engine_result_c F, util_engine_fail_c F, util_engine_move_c F], [], none⟩) (F := F) ⟨E_ok, okC (util_element_ok F) (okC (util_engine_report_ok F) (okC (util_engine_ask_ok F) (okC (strings_TrimSuffix_ok F) (okC (stringsLastIndexByte_ok F) (okC (util_engine_result_ok F) (okC (util_engine_fail_ok F) (okC (util_engine_move_ok F) (okN)))))))), mixed, goN, rvN⟩ (pl := util_engine_transfer_p) Tryz.func42 (by kernel_rfl) (fun x => by kernel_rfl)
def util_engine_advance (F : Nat)  (a0 : TAns) (a1 : TUtil) (a2 : Twords) (a3 : TAinti648) (a4 : List Int) : Option (TReq × Bool × TUtil × Twords × TAinti648 × (List Int)) :=
 cond (a1.fState == 0)
 ((util_engine_begin F a1 a2 a3 a4).bind fun x1 =>
 some (x1.1, x1.2.1, x1.2.2.1, x1.2.2.2.1, x1.2.2.2.2.1, x1.2.2.2.2.2))
 (cond (a1.fState == 1)
 ((util_engine_ask F 2 (TReq.mk 2 a3.2.1 0 0 0 0 0 0 [] a1.fOut [] []) a1 a2 a3 a4).bind fun x2 =>
 some (x2.1, x2.2.1, x2.2.2.1, x2.2.2.2.1, x2.2.2.2.2.1, x2.2.2.2.2.2))
 (cond (a1.fState == 2)
 ((util_engine_written F a0 a1 a2 a3 a4).bind fun x3 =>
 some ((TReq.mk 0 0 0 0 0 0 0 0 [] [] [] []), false, x3.1, x3.2.1, x3.2.2.1, x3.2.2.2))
 (cond (a1.fState == 3)
 ((util_engine_exit F a3.2.2.1 a1 a2 a3 a4).bind fun x4 =>
 some ((TReq.mk 0 0 0 0 0 0 0 0 [] [] [] []), false, x4.1, x4.2.1, x4.2.2.1, x4.2.2.2))
 (cond (a1.fState == 5)
 ((util_engine_write F 2 a1.fBuf 4 a1 a2 a3 a4).bind fun x5 =>
 some ((TReq.mk 0 0 0 0 0 0 0 0 [] [] [] []), false, x5.1, x5.2.1, x5.2.2.1, x5.2.2.2))
 (cond (a1.fState == 6)
 ((util_engine_write F 1 a1.fBuf 6 a1 a2 a3 a4).bind fun x6 =>
 some ((TReq.mk 0 0 0 0 0 0 0 0 [] [] [] []), false, x6.1, x6.2.1, x6.2.2.1, x6.2.2.2))
 (cond (a1.fState == 7)
 ((util_element F a2.foperands 0).bind fun x7 =>
 (util_engine_result F x7 a0.fErr a1 a2 a3 a4).bind fun x8 =>
 some ((TReq.mk 0 0 0 0 0 0 0 0 [] [] [] []), false, x8.1, x8.2.1, x8.2.2.1, x8.2.2.2))
 ((cond (a1.fState == 8)
 (some (a1.fState == 8))
 (some (a1.fState == 9)) : Option Bool).bind fun x9 =>
 cond x9
 ((util_engine_exec F a0 a1 a2 a3 a4).bind fun x10 =>
 some (x10.1, x10.2.1, x10.2.2.1, x10.2.2.2.1, x10.2.2.2.2.1, x10.2.2.2.2.2))
 ((cond (a1.fState == 10)
 (some (a1.fState == 10))
 (cond (a1.fState == 11)
 (some (a1.fState == 11))
 (cond (a1.fState == 12)
 (some (a1.fState == 12))
 (cond (a1.fState == 13)
 (some (a1.fState == 13))
 (cond (a1.fState == 14)
 (some (a1.fState == 14))
 (cond (a1.fState == 15)
 (some (a1.fState == 15))
 (cond (a1.fState == 16)
 (some (a1.fState == 16))
 (cond (a1.fState == 17)
 (some (a1.fState == 17))
 (some (a1.fState == 18))))))))) : Option Bool).bind fun x11 =>
 cond x11
 ((util_engine_stream F a0 a1 a2 a3 a4).bind fun x12 =>
 some (x12.1, x12.2.1, x12.2.2.1, x12.2.2.2.1, x12.2.2.2.2.1, x12.2.2.2.2.2))
 ((cond (a1.fState == 19)
 (some (a1.fState == 19))
 (cond (a1.fState == 20)
 (some (a1.fState == 20))
 (cond (a1.fState == 21)
 (some (a1.fState == 21))
 (some (a1.fState == 22)))) : Option Bool).bind fun x13 =>
 cond x13
 ((util_engine_file F a0 a1 a2 a3 a4).bind fun x14 =>
 some (x14.1, x14.2.1, x14.2.2.1, x14.2.2.2.1, x14.2.2.2.2.1, x14.2.2.2.2.2))
 ((cond (a1.fState == 23)
 (some (a1.fState == 23))
 (cond (a1.fState == 24)
 (some (a1.fState == 24))
 (cond (a1.fState == 25)
 (some (a1.fState == 25))
 (cond (a1.fState == 26)
 (some (a1.fState == 26))
 (cond (a1.fState == 27)
 (some (a1.fState == 27))
 (cond (a1.fState == 28)
 (some (a1.fState == 28))
 (some (a1.fState == 29))))))) : Option Bool).bind fun x15 =>
 cond x15
 ((util_engine_transfer F a0 a1 a2 a3 a4).bind fun x16 =>
 some (x16.1, x16.2.1, x16.2.2.1, x16.2.2.2.1, x16.2.2.2.2.1, x16.2.2.2.2.2))
 (some ((TReq.mk 9 0 0 0 0 0 a1.fN 0 [] [] [] []), true, a1, a2, a3, a4))))))))))))
def util_engine_advance_s : Shp := ⟨26, [.one (.ptr 0 0), .one (.dat (.ext 1))], [(bt0)], [(3, 1)], ⟨.tup [.dat (.ext 3), .dat .bool], [some (bt0)], [some (3, 1)], []⟩, none, []⟩
def util_engine_advance_p : Plan := .seq [] none (.leaf) (.seq [] none (.seq [] none (.leaf) (.seq [] none (.leaf) (.cond (.leaf) (.seq [] none (.leaf) (.cond (.seq [] none (.draw [⟨true, 12, none⟩, ⟨false, 1, none⟩, ⟨true, 2, none⟩, ⟨false, 2, none⟩]) (.leaf)) (.seq [] none (.leaf) (.cond (.leaf) (.seq [] none (.leaf) (.cond (.leaf) (.seq [] none (.leaf) (.cond (.leaf) (.seq [] none (.leaf) (.cond (.leaf) (.seq [] none (.leaf) (.cond (.drawP [0, 1] [9] [⟨[(0, true), (1, true), (2, true), (3, true), (4, true), (5, true), (7, true), (8, true), (6, false), (9, false)], none⟩]) (.seq [] (some (⟨[(84, .one (.dat .bool))], [none, none, none], [none], []⟩, false)) (.leaf) (.cond (.leaf) (.seq [] (some (⟨[(92, .one (.dat .bool))], [none, none, none], [none], []⟩, false)) (.leaf) (.cond (.leaf) (.seq [] (some (⟨[(107, .one (.dat .bool))], [none, none, none], [none], []⟩, false)) (.leaf) (.cond (.leaf) (.seq [] (some (⟨[(117, .one (.dat .bool))], [none, none, none], [none], []⟩, false)) (.leaf) (.leaf))))))))))))))))))))))) (.leaf))
def util_engine_advance_c (F : Nat) : Ctr E := ⟨util_engine_advance_s, fun (x : TAns × TUtil × Twords × TAinti648 × (List Int)) => util_engine_advance F x.1 x.2.1 x.2.2.1 x.2.2.2.1 x.2.2.2.2⟩
theorem util_engine_advance_ok (F : Nat) : (util_engine_advance_c F).Ok Tryz.prog := Ctr.ok_of (X := ⟨Tryz.prog, tyT, [util_engine_begin_c F, util_engine_ask_c F, util_engine_written_c F, util_engine_exit_c F, util_engine_write_c F, util_element_c F, util_engine_result_c F, util_engine_exec_c F, util_engine_stream_c F, util_engine_file_c F, util_engine_transfer_c F], [], none⟩) (F := F) ⟨E_ok, okC (util_engine_begin_ok F) (okC (util_engine_ask_ok F) (okC (util_engine_written_ok F) (okC (util_engine_exit_ok F) (okC (util_engine_write_ok F) (okC (util_element_ok F) (okC (util_engine_result_ok F) (okC (util_engine_exec_ok F) (okC (util_engine_stream_ok F) (okC (util_engine_file_ok F) (okC (util_engine_transfer_ok F) (okN))))))))))), mixed, goN, rvN⟩ (pl := util_engine_advance_p) Tryz.func26 (by kernel_rfl) (fun x => by kernel_rfl)
def slices_Clone_1 (F : Nat)  (a0 : TUtil) (a1 : Twords) (a2 : TAinti648) (a3 : List Int) : Option (List Int) :=
 rq ((decide (([] : List Int).length + ([a2.1, a2.2.1, a2.2.2.1, a2.2.2.2.1, a2.2.2.2.2.1, a2.2.2.2.2.2.1, a2.2.2.2.2.2.2.1, a2.2.2.2.2.2.2.2.1] : List Int).length ≤ 9223372036854775807)) && (decide ((([] : List Int).length + ([a2.1, a2.2.1, a2.2.2.1, a2.2.2.2.1, a2.2.2.2.2.1, a2.2.2.2.2.2.1, a2.2.2.2.2.2.2.1, a2.2.2.2.2.2.2.2.1] : List Int).length) * 8 ≤ 140737488355328))) (some (([] : List Int) ++ ([a2.1, a2.2.1, a2.2.2.1, a2.2.2.2.1, a2.2.2.2.2.1, a2.2.2.2.2.2.1, a2.2.2.2.2.2.2.1, a2.2.2.2.2.2.2.2.1] : List Int)))
def slices_Clone_1_s : Shp := ⟨43, [.one (.bsl 0 12 8)], [(bt0)], [(3, 1)], ⟨.one (.gsl 2 (.int .i64)), [none], [none, some (3, 1), some (3, 1)], []⟩, none, []⟩
def slices_Clone_1_p : Plan := .seq [] none (.leaf) (.seq [.slot 2 3 (.int .i64)] none (.leaf) (.leaf))
def slices_Clone_1_c (F : Nat) : Ctr E := ⟨slices_Clone_1_s, fun (x : TUtil × Twords × TAinti648 × (List Int)) => slices_Clone_1 F x.1 x.2.1 x.2.2.1 x.2.2.2⟩
theorem slices_Clone_1_ok (F : Nat) : (slices_Clone_1_c F).Ok Tryz.prog := Ctr.ok_of (X := ⟨Tryz.prog, tyT, [], [], none⟩) (F := F) ⟨E_ok, okN, mixed, goN, rvN⟩ (pl := slices_Clone_1_p) Tryz.func43 (by kernel_rfl) (fun x => by kernel_rfl)
def util_engine_store (F : Nat)  (a0 : TUtil) (a1 : Twords) (a2 : TAinti648) (a3 : List Int) : Option TUtil :=
 (cloneF F a0.fArgs).bind fun x1 =>
 (cloneF F a0.fEnv).bind fun x2 =>
 (slices_Clone_1 F a0 a1 a2 a3).bind fun x3 =>
 rq ((decide (x3.length + a3.length ≤ 9223372036854775807)) && (decide ((x3.length + a3.length) * 8 ≤ 140737488355328))) (loopF (σ := Int × (List UInt8) × (List (List UInt8)) × (List (List UInt8)) × Int × Int × (List UInt8) × (List (List UInt8)) × (List UInt8)) (R := TUtil) (fun rc5 x4 =>
 cond (decide (x4.1 < ((x3 ++ a3).length : Int)))
 (rq ((decide (0 ≤ x4.1)) && (decide (x4.1 < ((x3 ++ a3).length : Int)))) ((itoaF F ((x3 ++ a3).getD (Int.toNat x4.1) 0)).bind fun x6 =>
 rq ((decide (x4.2.2.2.2.2.2.2.1.length + ([x6] : List (List UInt8)).length ≤ 9223372036854775807)) && (decide ((x4.2.2.2.2.2.2.2.1.length + ([x6] : List (List UInt8)).length) * 16 ≤ 140737488355328))) (rc5 (w64 (x4.1 + 1), x4.2.1, x4.2.2.1, x4.2.2.2.1, x4.2.2.2.2.1, x4.2.2.2.2.2.1, x4.2.2.2.2.2.2.1, x4.2.2.2.2.2.2.2.1 ++ ([x6] : List (List UInt8)), x4.2.2.2.2.2.2.2.2))))
 (some (TUtil.mk x4.2.1 x4.2.2.1 x4.2.2.2.1 x4.2.2.2.2.1 x4.2.2.2.2.2.1 x4.2.2.2.2.2.2.1 x4.2.2.2.2.2.2.2.1 x4.2.2.2.2.2.2.2.2))) F (0, a0.fName, x1, x2, a0.fState, a0.fN, a0.fBuf, ([] : List (List UInt8)), a0.fOut))
def util_engine_store_s : Shp := ⟨27, [.one (.ptr 0 0)], [(bt0)], [(3, 1)], ⟨.one (.dat (.ext 0)), [none], [none], []⟩, none, []⟩
def util_engine_store_p : Plan := .seq [] none (.leaf) (.seq [] none (.leaf) (.seq [] none (.drawP [2] [7, 8, 9] [⟨[(0, true), (1, true), (3, true), (4, true), (2, false), (6, true), (5, false), (7, false), (8, false), (9, false)], none⟩]) (.seq [] none (.leaf) (.seq [.cell 2 6 9 .str] none (.seq [] none (.drawP [0] [] [⟨[(0, true), (1, true), (2, true), (3, true), (5, true), (6, true), (7, true), (8, true), (11, true), (4, false), (9, false), (10, false)], none⟩]) (.loop [] ⟨[(30, .one (.dat (.int .i64)))], [none, none, some (.cells 26 [.dat .str, .dat (.lst .str), .dat (.lst .str), .dat (.int .i64), .dat (.int .i64), .dat .str, .gsl 1 .str, .dat .str])], [none, some (9, 1), none, none], []⟩ (.seq [] none (.leaf) (.seq [] none (.leaf) (.seq [] none (.seq [] none (.leaf) (.drawP [2] [7] [⟨[(0, true), (1, true), (2, true), (3, false), (4, false), (5, false), (6, false), (7, false)], none⟩])) (.leaf)))))) (.leaf)))))
def util_engine_store_c (F : Nat) : Ctr E := ⟨util_engine_store_s, fun (x : TUtil × Twords × TAinti648 × (List Int)) => util_engine_store F x.1 x.2.1 x.2.2.1 x.2.2.2⟩
theorem util_engine_store_ok (F : Nat) : (util_engine_store_c F).Ok Tryz.prog := Ctr.ok_of (X := ⟨Tryz.prog, tyT, [slicesClone_c F, slices_Clone_1_c F, strconvItoa_c F], [], none⟩) (F := F) ⟨E_ok, okC (slicesClone_ok F) (okC (slices_Clone_1_ok F) (okC (strconvItoa_ok F) (okN))), mixed, goN, rvN⟩ (pl := util_engine_store_p) Tryz.func27 (by kernel_rfl) (fun x => by kernel_rfl)
def util_Step (F : Nat)  (a0 : TUtil) (a1 : TAns) : Option (TUtil × TReq) :=
 (util_load F a0).bind fun x1 =>
 loopF (σ := Int × TUtil × Twords × TAinti648 × (List Int)) (R := TUtil × TReq) (fun rc3 x2 =>
 cond (decide (x2.1 < 100))
 ((util_engine_advance F a1 x2.2.1 x2.2.2.1 x2.2.2.2.1 x2.2.2.2.2).bind fun x4 =>
 cond x4.2.1
 ((util_engine_store F x4.2.2.1 x4.2.2.2.1 x4.2.2.2.2.1 x4.2.2.2.2.2).bind fun x5 =>
 some (x5, x4.1))
 (rc3 (w64 (x2.1 + 1), x4.2.2.1, x4.2.2.2.1, x4.2.2.2.2.1, x4.2.2.2.2.2)))
 ((util_engine_exit F 1 x2.2.1 x2.2.2.1 x2.2.2.2.1 x2.2.2.2.2).bind fun x6 =>
 (util_engine_store F x6.1 x6.2.1 x6.2.2.1 x6.2.2.2).bind fun x7 =>
 some (x7, (TReq.mk 9 0 0 0 0 0 x6.1.fN 0 [] [] [] [])))) F (0, x1.2.1, x1.2.2.1, x1.2.2.2.1, x1.2.2.2.2)
def util_Step_s : Shp := ⟨21, [.one (.dat (.ext 0)), .one (.dat (.ext 1))], [], [], ⟨.tup [.dat (.ext 0), .dat (.ext 3)], [], [], []⟩, none, []⟩
def util_Step_p : Plan := .seq [] none (.leaf) (.seq [] none (.leaf) (.seq [] none (.seq [] none (.leaf) (.loop [] ⟨[(11, .one (.dat (.int .i64)))], [none, none, none, none, none, some (bt0)], [some (3, 1)], []⟩ (.seq [] none (.leaf) (.seq [] none (.leaf) (.seq [] none (.seq [] none (.leaf) (.seq [] none (.leaf) (.cond (.seq [] none (.drawP [6] [] [⟨[(0, true), (2, true), (1, false), (3, false), (4, false)], none⟩]) (.leaf)) (.leaf)))) (.leaf)))))) (.seq [] none (.leaf) (.seq [] none (.drawP [5] [] [⟨[(0, true), (2, true), (3, true), (4, true), (5, true), (6, true), (7, true), (1, false), (8, false), (9, false)], none⟩]) (.leaf)))))
def util_Step_c (F : Nat) : Ctr E := ⟨util_Step_s, fun (x : TUtil × TAns) => util_Step F x.1 x.2⟩
theorem util_Step_ok (F : Nat) : (util_Step_c F).Ok Tryz.prog := Ctr.ok_of (X := ⟨Tryz.prog, tyT, [util_load_c F, util_engine_advance_c F, util_engine_store_c F, util_engine_exit_c F], [], none⟩) (F := F) ⟨E_ok, okC (util_load_ok F) (okC (util_engine_advance_ok F) (okC (util_engine_store_ok F) (okC (util_engine_exit_ok F) (okN)))), mixed, goN, rvN⟩ (pl := util_Step_p) Tryz.func21 (by kernel_rfl) (fun x => by kernel_rfl)
def law31_awake (F : Nat)   : Option Bool :=
 (util_Start F ([([99, 97, 116] : List UInt8)] : List (List UInt8)) []).bind fun x1 =>
 (util_Step F x1.1 (TAns.mk 0 false 0 0 0 0 0 [] [] false [])).bind fun x2 =>
 (util_Step F x2.1 (TAns.mk 0 false 2 0 0 0 0 ([97, 98] : List UInt8) [] false [])).bind fun x3 =>
 (util_Step F x3.1 (TAns.mk 0 false 1 0 0 0 0 [] [] false [])).bind fun x4 =>
 (util_Step F x4.1 (TAns.mk 0 false 1 0 0 0 0 [] [] false [])).bind fun x5 =>
 (util_Step F x5.1 (TAns.mk 0 false 0 0 0 0 0 [] [] false [])).bind fun x6 =>
 (util_Start F ([([114, 109] : List UInt8), ([120] : List UInt8)] : List (List UInt8)) []).bind fun x7 =>
 (util_Step F x7.1 (TAns.mk 0 false 0 0 0 0 0 [] [] false [])).bind fun x8 =>
 (util_Step F x8.1 (TAns.mk 0 false 0 0 0 0 0 [] [] true [])).bind fun x9 =>
 (util_Step F x9.1 (TAns.mk 0 false 100 0 0 0 0 [] [] false [])).bind fun x10 =>
 (cond (!x1.2)
 (some true)
 (some (!x7.2)) : Option Bool).bind fun x11 =>
 (cond x11
 (some true)
 (some (x2.2.fOp != 1)) : Option Bool).bind fun x12 =>
 (cond x12
 (some true)
 (some (x2.2.fN != 32)) : Option Bool).bind fun x13 =>
 (cond x13
 (some true)
 (some (x3.2.fOp != 2)) : Option Bool).bind fun x14 =>
 (cond x14
 (some true)
 (some (x3.2.fFd != 1)) : Option Bool).bind fun x15 =>
 (cond x15
 (some true)
 (some (!(x3.2.fData == ([97, 98] : List UInt8)))) : Option Bool).bind fun x16 =>
 (cond x16
 (some true)
 (some (!(x4.2.fData == ([98] : List UInt8)))) : Option Bool).bind fun x17 =>
 (cond x17
 (some true)
 (some (x5.2.fOp != 1)) : Option Bool).bind fun x18 =>
 (cond x18
 (some true)
 (some (x6.2.fOp != 9)) : Option Bool).bind fun x19 =>
 (cond x19
 (some true)
 (some (x6.2.fN != 0)) : Option Bool).bind fun x20 =>
 cond x20
 (some false)
 ((cond (x8.2.fOp == 21)
 (some (x8.2.fPath == ([120] : List UInt8)))
 (some false) : Option Bool).bind fun x21 =>
 (cond x21
 (some (x9.2.fFd == 2))
 (some false) : Option Bool).bind fun x22 =>
 (cond x22
 (some (x9.2.fData == ([114, 109, 58, 32, 120, 58, 32, 105, 115, 32, 97, 32, 100, 105, 114, 101, 99, 116, 111, 114, 121, 10] : List UInt8)))
 (some false) : Option Bool).bind fun x23 =>
 (cond x23
 (some (x10.2.fOp == 9))
 (some false) : Option Bool).bind fun x24 =>
 (cond x24
 (some (x10.2.fN == 1))
 (some false) : Option Bool).bind fun x25 =>
 (cond x25
 ((util_Known F ([91] : List UInt8)).bind fun x27 =>
 some x27)
 (some false) : Option Bool).bind fun x26 =>
 (cond x26
 ((util_Known F ([99, 100] : List UInt8)).bind fun x29 =>
 some (!x29))
 (some false) : Option Bool).bind fun x28 =>
 some x28)
def law31_awake_s : Shp := ⟨10, [], [], [], ⟨.one (.dat .bool), [], [], []⟩, none, []⟩
def law31_awake_p : Plan := .seq [] none (.leaf) (.seq [] none (.leaf) (.seq [] none (.leaf) (.seq [] none (.leaf) (.seq [] none (.leaf) (.seq [] none (.leaf) (.seq [] none (.leaf) (.seq [] none (.leaf) (.seq [] none (.leaf) (.seq [] none (.leaf) (.seq [] none (.leaf) (.seq [] none (.seq [] none (.region [(6, ⟨[(78, .one (.dat .bool))], [none, none, none, none, none, none, none, none, none, none, none, none], [none, none], []⟩, false), (5, ⟨[(83, .one (.dat .bool))], [none, none, none, none, none, none, none, none, none, none, none, none], [none, none], []⟩, false), (5, ⟨[(88, .one (.dat .bool))], [none, none, none, none, none, none, none, none, none, none, none, none], [none, none], []⟩, false), (5, ⟨[(93, .one (.dat .bool))], [none, none, none, none, none, none, none, none, none, none, none, none], [none, none], []⟩, false), (5, ⟨[(98, .one (.dat .bool))], [none, none, none, none, none, none, none, none, none, none, none, none], [none, none], []⟩, false), (5, ⟨[(103, .one (.dat .bool))], [none, none, none, none, none, none, none, none, none, none, none, none], [none, none], []⟩, false), (5, ⟨[(108, .one (.dat .bool))], [none, none, none, none, none, none, none, none, none, none, none, none], [none, none], []⟩, false), (5, ⟨[(113, .one (.dat .bool))], [none, none, none, none, none, none, none, none, none, none, none, none], [none, none], []⟩, false), (5, ⟨[(118, .one (.dat .bool))], [none, none, none, none, none, none, none, none, none, none, none, none], [none, none], []⟩, false), (5, ⟨[(123, .one (.dat .bool))], [none, none, none, none, none, none, none, none, none, none, none, none], [none, none], []⟩, false)]) (.leaf)) (.seq [] none (.region [(8, ⟨[(131, .one (.dat .bool))], [none, none, none, none, none, none, none, none, none, none, none, none], [none, none], []⟩, false), (5, ⟨[(136, .one (.dat .bool))], [none, none, none, none, none, none, none, none, none, none, none, none], [none, none], []⟩, false), (5, ⟨[(141, .one (.dat .bool))], [none, none, none, none, none, none, none, none, none, none, none, none], [none, none], []⟩, false), (5, ⟨[(146, .one (.dat .bool))], [none, none, none, none, none, none, none, none, none, none, none, none], [none, none], []⟩, false), (5, ⟨[(151, .one (.dat .bool))], [none, none, none, none, none, none, none, none, none, none, none, none], [none, none], []⟩, false), (3, ⟨[(154, .one (.dat .bool))], [none, none, none, none, none, none, none, none, none, none, none, none], [none, none], []⟩, false), (4, ⟨[(158, .one (.dat .bool))], [none, none, none, none, none, none, none, none, none, none, none, none], [none, none], []⟩, false)]) (.leaf)))))))))))))
def law31_awake_c (F : Nat) : Ctr E := ⟨law31_awake_s, fun (x : Unit) => law31_awake F ⟩
theorem law31_awake_ok (F : Nat) : (law31_awake_c F).Ok Tryz.prog := Ctr.ok_of (X := ⟨Tryz.prog, tyT, [util_Start_c F, util_Step_c F, util_Known_c F], [], none⟩) (F := F) ⟨E_ok, okC (util_Start_ok F) (okC (util_Step_ok F) (okC (util_Known_ok F) (okN))), mixed, goN, rvN⟩ (pl := law31_awake_p) Tryz.func10 (by kernel_rfl) (fun x => by kernel_rfl)
def law31_play (F : Nat)  (a0 : List (List UInt8)) (a1 : List (List UInt8)) (a2 : List UInt8) (a3 : Int) : Option Tplayed :=
 (util_Start F a0 a1).bind fun x1 =>
 cond (!x1.2)
 (some (Tplayed.mk [] 0 false))
 (loopF (σ := (List UInt8) × Int × Tplayed × TUtil × TAns) (R := Tplayed) (fun rc3 x2 =>
 cond (decide (x2.2.1 < 12000))
 ((util_Step F x2.2.2.2.1 x2.2.2.2.2).bind fun x4 =>
 cond (x4.2.fOp == 9)
 (some (Tplayed.mk x2.2.2.1.fout x4.2.fN true))
 (cond (x4.2.fOp == 1)
 ((cond (decide (x4.2.fN < a3))
 (some x4.2.fN)
 (some a3) : Option Int).bind fun x5 =>
 ((cond (x4.2.fFd != 0)
 (some true)
 (some (decide (x5 < 0))) : Option Bool).bind fun x7 =>
 cond x7
 (some 0)
 (some x5) : Option Int).bind fun x6 =>
 (cond (decide ((x2.1.length : Int) < x6))
 (some (x2.1.length : Int))
 (some x6) : Option Int).bind fun x8 =>
 rq ((decide (0 ≤ x8)) && (decide (x8 ≤ (x2.1.length : Int)))) (rq ((decide (0 ≤ x8)) && ((decide (x8 ≤ (x2.1.length : Int))) && (decide ((x2.1.length : Int) ≤ (x2.1.length : Int))))) (rc3 (sl x2.1 x8 (x2.1.length : Int), w64 (x2.2.1 + 1), x2.2.2.1, x4.1, { (TAns.mk 0 false 0 0 0 0 0 [] [] false []) with fN := x8, fData := sl x2.1 0 x8 }))))
 (cond (x4.2.fOp == 2)
 ((cond (decide ((x4.2.fData.length : Int) < a3))
 (some (x4.2.fData.length : Int))
 (some a3) : Option Int).bind fun x9 =>
 cond (x4.2.fFd == 1)
 (rq ((decide (0 ≤ x9)) && (decide (x9 ≤ (x4.2.fData.length : Int)))) (rq (decide (x2.2.2.1.fout.length + (sl x4.2.fData 0 x9).length ≤ 9223372036854775807)) (rc3 (x2.1, w64 (x2.2.1 + 1), { x2.2.2.1 with fout := x2.2.2.1.fout ++ (sl x4.2.fData 0 x9) }, x4.1, { (TAns.mk 0 false 0 0 0 0 0 [] [] false []) with fN := x9 }))))
 (rc3 (x2.1, w64 (x2.2.1 + 1), x2.2.2.1, x4.1, { (TAns.mk 0 false 0 0 0 0 0 [] [] false []) with fN := x9 })))
 (cond (x4.2.fOp == 3)
 (rc3 (x2.1, w64 (x2.2.1 + 1), x2.2.2.1, x4.1, { (TAns.mk 0 false 0 0 0 0 0 [] [] false []) with fFd := x4.2.fN }))
 (rc3 (x2.1, w64 (x2.2.1 + 1), x2.2.2.1, x4.1, (TAns.mk 0 false 0 0 0 0 0 [] [] false [])))))))
 (some x2.2.2.1)) F (a2, 0, (Tplayed.mk [] 0 false), x1.1, (TAns.mk 0 false 0 0 0 0 0 [] [] false [])))
def law31_play_s : Shp := ⟨16, [.one (.dat (.lst .str)), .one (.dat (.lst .str)), .one (.dat .str), .one (.dat (.int .i64))], [], [], ⟨.one (.dat (.ext 10)), [], [], []⟩, none, []⟩
def law31_play_p : Plan := .seq [] none (.leaf) (.seq [] none (.leaf) (.seq [] none (.leaf) (.seq [] none (.leaf) (.seq [] none (.leaf) (.seq [] none (.seq [] none (.leaf) (.loop [] ⟨[(2, .one (.dat .str)), (13, .one (.dat (.int .i64)))], [none, some (.cells 33 [.pk (.ext 10)]), some (.cells 26 [.pk (.ext 0)]), some (.cells 50 [.pk (.ext 1)])], [], []⟩ (.seq [] none (.leaf) (.seq [] none (.seq [] none (.leaf) (.seq [] none (.leaf) (.seq [] none (.leaf) (.seq [] none (.leaf) (.seq [] none (.leaf) (.cond (.leaf) (.seq [] none (.leaf) (.cond (.seq [] (some (⟨[(16, .one (.dat (.int .i64)))], [none, none, none, none, none, none], [], []⟩, false)) (.leaf) (.seq [] (some (⟨[(16, .one (.dat (.int .i64)))], [none, none, none, none, none, none], [], []⟩, false)) (.seq [] none (.region [(7, ⟨[(62, .one (.dat .bool))], [none, none, none, none, none, none], [], []⟩, false)]) (.leaf)) (.seq [] (some (⟨[(16, .one (.dat (.int .i64)))], [none, none, none, none, none, none], [], []⟩, false)) (.leaf) (.leaf)))) (.seq [] none (.leaf) (.cond (.seq [] (some (⟨[(16, .one (.dat (.int .i64)))], [none, none, none, none, none, none], [], []⟩, false)) (.leaf) (.seq [] none (.leaf) (.seq [] none (.leaf) (.cond (.draw [⟨true, 8, none⟩, ⟨false, 1, none⟩]) (.leaf))))) (.leaf))))))))))) (.leaf))))) (.leaf))))))
def law31_play_c (F : Nat) : Ctr E := ⟨law31_play_s, fun (x : (List (List UInt8)) × (List (List UInt8)) × (List UInt8) × Int) => law31_play F x.1 x.2.1 x.2.2.1 x.2.2.2⟩
theorem law31_play_ok (F : Nat) : (law31_play_c F).Ok Tryz.prog := Ctr.ok_of (X := ⟨Tryz.prog, tyT, [util_Start_c F, util_Step_c F], [], none⟩) (F := F) ⟨E_ok, okC (util_Start_ok F) (okC (util_Step_ok F) (okN)), mixed, goN, rvN⟩ (pl := law31_play_p) Tryz.func16 (by kernel_rfl) (fun x => by kernel_rfl)
def law31_UtilEnds (F : Nat)  (a0 : List (List UInt8)) (a1 : List UInt8) (a2 : Int) : Option Bool :=
 (cond ((a0.length : Int) == 0)
 (some true)
 (some (decide (20 < (a0.length : Int)))) : Option Bool).bind fun x1 =>
 (cond x1
 (some true)
 (some (decide (200 < (a1.length : Int)))) : Option Bool).bind fun x2 =>
 (cond x2
 (some true)
 (some (decide (a2 < 1))) : Option Bool).bind fun x3 =>
 (cond x3
 (some true)
 (rq (decide (0 < (a0.length : Int))) (some ((a0.getD 0 []) == ([121, 101, 115] : List UInt8)))) : Option Bool).bind fun x4 =>
 (cond x4
 (some true)
 (rq (decide (0 < (a0.length : Int))) (some ((a0.getD 0 []) == ([112, 114, 105, 110, 116, 102] : List UInt8)))) : Option Bool).bind fun x5 =>
 cond x5
 ((law31_awake 60).bind fun x6 =>
 some x6)
 (loopF (σ := Int) (R := Bool) (fun rc8 x7 =>
 cond (decide (x7 < (a0.length : Int)))
 ((rq ((decide (0 ≤ x7)) && (decide (x7 < (a0.length : Int)))) (cond (decide (30 < ((a0.getD (Int.toNat x7) []).length : Int)))
 (some true)
 (cond (decide (0 < x7))
 (rq ((decide (0 ≤ x7)) && (decide (x7 < (a0.length : Int)))) (cond (!((a0.getD (Int.toNat x7) []) == []))
 (rq ((decide (0 ≤ x7)) && (decide (x7 < (a0.length : Int)))) (rq (decide (0 < ((a0.getD (Int.toNat x7) []).length : Int))) (cond (decide (49 ≤ (((a0.getD (Int.toNat x7) []).getD 0 0).toNat : Int)))
 (rq ((decide (0 ≤ x7)) && (decide (x7 < (a0.length : Int)))) (rq (decide (0 < ((a0.getD (Int.toNat x7) []).length : Int))) (cond (decide ((((a0.getD (Int.toNat x7) []).getD 0 0).toNat : Int) ≤ 57))
 (some true)
 (rq ((decide (0 ≤ x7)) && (decide (x7 < (a0.length : Int)))) (rq (decide (0 < ((a0.getD (Int.toNat x7) []).length : Int))) (cond ((((a0.getD (Int.toNat x7) []).getD 0 0).toNat : Int) == 37)
 (some true)
 (rq ((decide (0 ≤ x7)) && (decide (x7 < (a0.length : Int)))) (rq (decide (0 < ((a0.getD (Int.toNat x7) []).length : Int))) (some ((((a0.getD (Int.toNat x7) []).getD 0 0).toNat : Int) == 45))))))))))
 (rq ((decide (0 ≤ x7)) && (decide (x7 < (a0.length : Int)))) (rq (decide (0 < ((a0.getD (Int.toNat x7) []).length : Int))) (cond ((((a0.getD (Int.toNat x7) []).getD 0 0).toNat : Int) == 37)
 (some true)
 (rq ((decide (0 ≤ x7)) && (decide (x7 < (a0.length : Int)))) (rq (decide (0 < ((a0.getD (Int.toNat x7) []).length : Int))) (some ((((a0.getD (Int.toNat x7) []).getD 0 0).toNat : Int) == 45))))))))))
 (some false)))
 (some false))) : Option Bool).bind fun x9 =>
 cond x9
 ((law31_awake 60).bind fun x10 =>
 some x10)
 (rc8 (w64 (x7 + 1))))
 (rq (decide (0 < (a0.length : Int))) ((util_Known F (a0.getD 0 [])).bind fun x11 =>
 cond (!x11)
 ((law31_awake 60).bind fun x12 =>
 some x12)
 ((law31_play F a0 ([([80, 87, 68, 61, 47, 97] : List UInt8)] : List (List UInt8)) a1 a2).bind fun x13 =>
 (cond x13.fended
 (some (decide (0 ≤ x13.fstatus)))
 (some false) : Option Bool).bind fun x14 =>
 (cond x14
 (some (decide (x13.fstatus ≤ 255)))
 (some false) : Option Bool).bind fun x15 =>
 (cond x15
 ((law31_awake 60).bind fun x17 =>
 some x17)
 (some false) : Option Bool).bind fun x16 =>
 some x16)))) F 0)
def law31_UtilEnds_s : Shp := ⟨8, [.one (.dat (.lst .str)), .one (.dat .str), .one (.dat (.int .i64))], [], [], ⟨.one (.dat .bool), [], [], []⟩, none, []⟩
def law31_UtilEnds_p : Plan := .seq [] none (.leaf) (.seq [] none (.seq [] none (.region [(8, ⟨[(16, .one (.dat .bool))], [], [], []⟩, false), (5, ⟨[(21, .one (.dat .bool))], [], [], []⟩, false), (4, ⟨[(25, .one (.dat .bool))], [], [], []⟩, false), (6, ⟨[(31, .one (.dat .bool))], [], [], []⟩, false), (6, ⟨[(37, .one (.dat .bool))], [], [], []⟩, false)]) (.leaf)) (.seq [] none (.seq [] none (.leaf) (.loop [] ⟨[(7, .one (.dat (.int .i64)))], [], [], []⟩ (.seq [] none (.leaf) (.seq [] none (.seq [] none (.region [(49, ⟨[(93, .one (.dat .bool))], [], [], []⟩, false)]) (.leaf)) (.leaf))))) (.seq [] none (.leaf) (.seq [] none (.leaf) (.seq [] none (.region [(7, ⟨[(112, .one (.dat .bool))], [none], [none], []⟩, false), (5, ⟨[(117, .one (.dat .bool))], [none], [none], []⟩, false), (3, ⟨[(120, .one (.dat .bool))], [none], [none], []⟩, false)]) (.leaf))))))
def law31_UtilEnds_c (F : Nat) : Ctr E := ⟨law31_UtilEnds_s, fun (x : (List (List UInt8)) × (List UInt8) × Int) => law31_UtilEnds F x.1 x.2.1 x.2.2⟩
theorem law31_UtilEnds_ok (F : Nat) : (law31_UtilEnds_c F).Ok Tryz.prog := Ctr.ok_of (X := ⟨Tryz.prog, tyT, [law31_awake_c 60, util_Known_c F, law31_play_c F], [], none⟩) (F := F) ⟨E_ok, okC (law31_awake_ok 60) (okC (util_Known_ok F) (okC (law31_play_ok F) (okN))), mixed, goN, rvN⟩ (pl := law31_UtilEnds_p) Tryz.func8 (by kernel_rfl) (fun x => by kernel_rfl)
end
end Go.Proofs.YteagcbkkonabbaaGreatDoor
