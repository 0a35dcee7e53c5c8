/- models -/
import Derived.Test.YteagcbkkonabbaaGreatDoorTy
import Derived.Test.YteagcbkkonabbaaGreatDoorHs
import Derived.Test.YteagcbkkonabbaaGreatDoorCl
namespace Go.Proofs.YteagcbkkonabbaaGreatDoor
open Go.RT
set_option linter.all false
set_option maxRecDepth 100000
noncomputable section
abbrev bt0 : BT := .cells 64 [.pk (.ext 0), .pk (.ext 2), .pk tAinti648, .gsl 0 (.int .i64)]
abbrev bt1 : BT := .cells 130 [.optr 0 0, .gsl 0 (.int .u8)]
def slicesClone_c (F : Nat) : Ctr E := ⟨slices_Clone_s, fun (x : List (List UInt8)) => cloneF F x⟩
theorem slicesClone_ok (F : Nat) : (slicesClone_c F).Ok Tryz.prog := fun x y h => slices_Clone_ok F x y ((clone_eq F x).trans h)
def indexByteString := ibF
def indexByteString_c (F : Nat) : Ctr E := ibC E 119 F
theorem indexByteString_ok (F : Nat) : (indexByteString_c F).Ok Tryz.prog := ib_ok (fun args w => run_callFunc_extern Tryz.func119 (by kernel_rfl) (by kernel_rfl) (by kernel_rfl) (e := Extern.BytealgIndexByte.indexByte) (by kernel_rfl) args w) F
def strconvAtoi_c (F : Nat) : Ctr E := atoiC E 32 F
theorem strconvAtoi_ok (F : Nat) : (strconvAtoi_c F).Ok Tryz.prog := atoi_ok atoiAt F
def absurd90_c (F : Nat) : Ctr E := ⟨⟨90, [.one (.dat .str)], [], [], ⟨.one (.any), [], [], []⟩, none, []⟩, fun _ => none⟩
theorem absurd90_ok (F : Nat) : (absurd90_c F).Ok Tryz.prog := fun x y h => nomatch (show none = some y from h)
def absurd55_c (F : Nat) : Ctr E := ⟨⟨55, [.one (.dat (.lst .str))], [], [], ⟨.one (.any), [], [], []⟩, none, []⟩, fun _ => none⟩
theorem absurd55_ok (F : Nat) : (absurd55_c F).Ok Tryz.prog := fun x y h => nomatch (show none = some y from h)
def absurd56_c (F : Nat) : Ctr E := ⟨⟨56, [.one (.dat (.lst .str))], [], [], ⟨.one (.any), [], [], []⟩, none, []⟩, fun _ => none⟩
theorem absurd56_ok (F : Nat) : (absurd56_c F).Ok Tryz.prog := fun x y h => nomatch (show none = some y from h)
def absurd57_c (F : Nat) : Ctr E := ⟨⟨57, [.one (.ptr 0 0)], [(bt0)], [(3, 1)], ⟨.one (.any), [none], [none], []⟩, none, []⟩, fun _ => none⟩
theorem absurd57_ok (F : Nat) : (absurd57_c F).Ok Tryz.prog := fun x y h => nomatch (show none = some y from h)
def absurd58_c (F : Nat) : Ctr E := ⟨⟨58, [.one (.ptr 0 0)], [(bt0)], [(3, 1)], ⟨.one (.any), [none], [none], []⟩, none, []⟩, fun _ => none⟩
theorem absurd58_ok (F : Nat) : (absurd58_c F).Ok Tryz.prog := fun x y h => nomatch (show none = some y from h)
def absurd59_c (F : Nat) : Ctr E := ⟨⟨59, [.one (.dat (.lst .str)), .one (.dat .str)], [], [], ⟨.one (.any), [], [], []⟩, none, []⟩, fun _ => none⟩
theorem absurd59_ok (F : Nat) : (absurd59_c F).Ok Tryz.prog := fun x y h => nomatch (show none = some y from h)
def absurd60_c (F : Nat) : Ctr E := ⟨⟨60, [.one (.ptr 0 0)], [(bt0)], [(3, 1)], ⟨.one (.any), [none], [none], []⟩, none, []⟩, fun _ => none⟩
theorem absurd60_ok (F : Nat) : (absurd60_c F).Ok Tryz.prog := fun x y h => nomatch (show none = some y from h)
def absurd61_c (F : Nat) : Ctr E := ⟨⟨61, [.one (.ptr 0 0)], [(bt0)], [(3, 1)], ⟨.one (.any), [none], [none], []⟩, none, []⟩, fun _ => none⟩
theorem absurd61_ok (F : Nat) : (absurd61_c F).Ok Tryz.prog := fun x y h => nomatch (show none = some y from h)
def absurd39_c (F : Nat) : Ctr E := ⟨⟨39, [.one (.ptr 0 0), .one (.dat (.ext 1))], [(bt0)], [(3, 1)], ⟨.one (.any), [none], [none], []⟩, none, []⟩, fun _ => none⟩
theorem absurd39_ok (F : Nat) : (absurd39_c F).Ok Tryz.prog := fun x y h => nomatch (show none = some y from h)
def stringsSplit_c (F : Nat) : Ctr E := splitC E 136 9 F
theorem stringsSplit_ok (F : Nat) : (stringsSplit_c F).Ok Tryz.prog := split_ok splitAt F
def noEscape_c (F : Nat) : Ctr E := neC E 162 (bt1) [(5, 1)]
theorem noEscape_ok (F : Nat) : (noEscape_c F).Ok Tryz.prog := ne_ok (fun v w => by rw [run_callFunc_extern Tryz.func162 (by kernel_rfl) (by kernel_rfl) (by kernel_rfl) (e := Extern.AbiNoEscape.same) (by kernel_rfl)]; rfl)
def absurd107_c (F : Nat) : Ctr E := ⟨⟨107, [.one (.ptr 0 0)], [(bt0)], [(3, 1)], ⟨.one (.any), [none], [none], []⟩, none, []⟩, fun _ => none⟩
theorem absurd107_ok (F : Nat) : (absurd107_c F).Ok Tryz.prog := fun x y h => nomatch (show none = some y from h)
def slicesSort_c (F : Nat) : Ctr E := sortC E 138 9 F
theorem slicesSort_ok (F : Nat) : (slicesSort_c F).Ok Tryz.prog := sort_ok sortAt F
def slicesCompact_c (F : Nat) : Ctr E := compC' E 139 9 F
theorem slicesCompact_ok (F : Nat) : (slicesCompact_c F).Ok Tryz.prog := comp_ok' compAt F
def absurd204_c (F : Nat) : Ctr E := ⟨⟨204, [.one (.dat .str)], [], [], ⟨.one (.any), [], [], []⟩, none, []⟩, fun _ => none⟩
theorem absurd204_ok (F : Nat) : (absurd204_c F).Ok Tryz.prog := fun x y h => nomatch (show none = some y from h)
def slicesReverse_c (F : Nat) : Ctr E := revC E 144 9 F
theorem slicesReverse_ok (F : Nat) : (slicesReverse_c F).Ok Tryz.prog := revS_ok revSAt F
def absurd109_c (F : Nat) : Ctr E := ⟨⟨109, [.one (.ptr 0 0)], [(bt0)], [(3, 1)], ⟨.one (.any), [none], [none], []⟩, none, []⟩, fun _ => none⟩
theorem absurd109_ok (F : Nat) : (absurd109_c F).Ok Tryz.prog := fun x y h => nomatch (show none = some y from h)
def absurd110_c (F : Nat) : Ctr E := ⟨⟨110, [.one (.ptr 0 0)], [(bt0)], [(3, 1)], ⟨.one (.any), [none], [none], []⟩, none, []⟩, fun _ => none⟩
theorem absurd110_ok (F : Nat) : (absurd110_c F).Ok Tryz.prog := fun x y h => nomatch (show none = some y from h)
def absurd70_c (F : Nat) : Ctr E := ⟨⟨70, [.one (.ptr 0 0)], [(bt0)], [(3, 1)], ⟨.one (.any), [none], [none], []⟩, none, []⟩, fun _ => none⟩
theorem absurd70_ok (F : Nat) : (absurd70_c F).Ok Tryz.prog := fun x y h => nomatch (show none = some y from h)
def absurd71_c (F : Nat) : Ctr E := ⟨⟨71, [.one (.ptr 0 0), .one (.dat (.ext 1))], [(bt0)], [(3, 1)], ⟨.one (.any), [none], [none], []⟩, none, []⟩, fun _ => none⟩
theorem absurd71_ok (F : Nat) : (absurd71_c F).Ok Tryz.prog := fun x y h => nomatch (show none = some y from h)
def absurd113_c (F : Nat) : Ctr E := ⟨⟨113, [.one (.ptr 0 0)], [(bt0)], [(3, 1)], ⟨.one (.any), [none], [none], []⟩, none, []⟩, fun _ => none⟩
theorem absurd113_ok (F : Nat) : (absurd113_c F).Ok Tryz.prog := fun x y h => nomatch (show none = some y from h)
def absurd114_c (F : Nat) : Ctr E := ⟨⟨114, [.one (.ptr 0 0), .one (.dat .str), .one (.dat (.ext 1))], [(bt0)], [(3, 1)], ⟨.one (.any), [none], [none], []⟩, none, []⟩, fun _ => none⟩
theorem absurd114_ok (F : Nat) : (absurd114_c F).Ok Tryz.prog := fun x y h => nomatch (show none = some y from h)
def absurd42_c (F : Nat) : Ctr E := ⟨⟨42, [.one (.ptr 0 0), .one (.dat (.ext 1))], [(bt0)], [(3, 1)], ⟨.one (.any), [none], [none], []⟩, none, []⟩, fun _ => none⟩
theorem absurd42_ok (F : Nat) : (absurd42_c F).Ok Tryz.prog := fun x y h => nomatch (show none = some y from h)
def strconvItoa_c (F : Nat) : Ctr E := itoaC E 17 F
theorem strconvItoa_ok (F : Nat) : (strconvItoa_c F).Ok Tryz.prog := itoa_ok (entersOf Tryz.func17 (by kernel_rfl) (by kernel_rfl)) (fun w G hP => tabIs_of_pins (g := 1) hP (by kernel_rfl) rfl) (fun n h0 h1 w ht => Go.Proofs.Any.strconv_Itoa Tryz.itoaL n h0 h1 w ht) F
/- slices.Index[[]string,string] -/
def slices_Index (F : Nat)  (a0 : List (List UInt8)) (a1 : List UInt8) : Option Int :=
 loopF (σ := Int) (R := Int) (fun rc2 x1 =>
 cond (decide (x1 < (a0.length : Int)))
 (rq ((decide (0 ≤ x1)) && (decide (x1 < (a0.length : Int)))) (cond (a1 == (a0.getD (Int.toNat x1) []))
 (some x1)
 (rc2 (w64 (x1 + 1)))))
 (some (-1))) F 0
def slices_Index_s : Shp := ⟨29, [.one (.dat (.lst .str)), .one (.dat .str)], [], [], ⟨.one (.dat (.int .i64)), [], [], []⟩, none, []⟩
def slices_Index_p : Plan := .seq [] none (.leaf) (.seq [] none (.seq [] none (.leaf) (.loop [] ⟨[(8, .one (.dat (.int .i64)))], [], [], []⟩ (.leaf))) (.leaf))
def slices_Index_c (F : Nat) : Ctr E := ⟨slices_Index_s, fun (x : (List (List UInt8)) × (List UInt8)) => slices_Index F x.1 x.2⟩
theorem slices_Index_ok (F : Nat) : (slices_Index_c F).Ok Tryz.prog := Ctr.ok_of (X := ⟨Tryz.prog, tyT, [], [], none⟩) (F := F) ⟨E_ok, okN, mixed, goN, rvN⟩ (pl := slices_Index_p) Tryz.func29 (by kernel_rfl) (fun x => by kernel_rfl)
/- slices.Contains[[]string,string] -/
def slices_Contains (F : Nat)  (a0 : List (List UInt8)) (a1 : List UInt8) : Option Bool :=
 (slices_Index F a0 a1).bind fun x1 =>
 some (decide (0 ≤ x1))
def slices_Contains_s : Shp := ⟨23, [.one (.dat (.lst .str)), .one (.dat .str)], [], [], ⟨.one (.dat .bool), [], [], []⟩, none, []⟩
def slices_Contains_p : Plan := .leaf
def slices_Contains_c (F : Nat) : Ctr E := ⟨slices_Contains_s, fun (x : (List (List UInt8)) × (List UInt8)) => slices_Contains F x.1 x.2⟩
theorem slices_Contains_ok (F : Nat) : (slices_Contains_c F).Ok Tryz.prog := Ctr.ok_of (X := ⟨Tryz.prog, tyT, [slices_Index_c F], [], none⟩) (F := F) ⟨E_ok, okC (slices_Index_ok F) (okN), mixed, goN, rvN⟩ (pl := slices_Contains_p) Tryz.func23 (by kernel_rfl) (fun x => by kernel_rfl)
/- jobshell/util.Known -/
def util_Known (F : Nat)  (a0 : List UInt8) : Option Bool :=
 rq (Nat.beq tab0.length 28) ((slices_Contains F ((tab0.take 28).drop 0) a0).bind fun x1 =>
 some x1)
def util_Known_s : Shp := ⟨13, [.one (.dat .str)], [], [], ⟨.one (.dat .bool), [], [], []⟩, none, []⟩
def util_Known_p : Plan := .leaf
def util_Known_c (F : Nat) : Ctr E := ⟨util_Known_s, fun (x : List UInt8) => util_Known F x⟩
theorem util_Known_ok (F : Nat) : (util_Known_c F).Ok Tryz.prog := Ctr.ok_of (X := ⟨Tryz.prog, tyT, [slices_Contains_c F], [], none⟩) (F := F) ⟨E_ok, okC (slices_Contains_ok F) (okN), mixed, goN, rvN⟩ (pl := util_Known_p) Tryz.func13 (by kernel_rfl) (fun x => by kernel_rfl)
/- jobshell/util.Start -/
def util_Start (F : Nat)  (a0 : List (List UInt8)) (a1 : List (List UInt8)) : Option (TUtil × Bool) :=
 (cond ((a0.length : Int) == 0)
 (some true)
 (rq (decide (0 < (a0.length : Int))) ((util_Known F (a0.getD 0 [])).bind fun x2 =>
 some (!x2))) : Option Bool).bind fun x1 =>
 cond x1
 (some ((TUtil.mk [] [] [] 0 0 [] [] []), false))
 (rq (decide (0 < (a0.length : Int))) ((cloneF F a0).bind fun x3 =>
 (cloneF F a1).bind fun x4 =>
 some ((TUtil.mk (a0.getD 0 []) x3 x4 0 0 [] [] []), true)))
def util_Start_s : Shp := ⟨11, [.one (.dat (.lst .str)), .one (.dat (.lst .str))], [], [], ⟨.tup [.dat (.ext 0), .dat .bool], [], [], []⟩, none, []⟩
def util_Start_p : Plan := .seq [] none (.leaf) (.seq [] none (.seq [] none (.region [(10, ⟨[(15, .one (.dat .bool))], [none], [], []⟩, false)]) (.leaf)) (.seq [] none (.drawP [] [] [⟨[(0, true), (1, true), (2, true), (3, true), (5, true), (4, false), (6, false), (7, false), (8, false), (9, false)], none⟩]) (.leaf)))
def util_Start_c (F : Nat) : Ctr E := ⟨util_Start_s, fun (x : (List (List UInt8)) × (List (List UInt8))) => util_Start F x.1 x.2⟩
theorem util_Start_ok (F : Nat) : (util_Start_c F).Ok Tryz.prog := Ctr.ok_of (X := ⟨Tryz.prog, tyT, [util_Known_c F, slicesClone_c F], [], none⟩) (F := F) ⟨E_ok, okC (util_Known_ok F) (okC (slicesClone_ok F) (okN)), mixed, goN, rvN⟩ (pl := util_Start_p) Tryz.func11 (by kernel_rfl) (fun x => by kernel_rfl)
/- jobshell/util.letters -/
def util_letters (F : Nat)  (a0 : List UInt8) : Option ((List UInt8) × Bool) :=
 (cond (a0 == ([104, 101, 97, 100] : List UInt8))
 (some (a0 == ([104, 101, 97, 100] : List UInt8)))
 (some (a0 == ([116, 97, 105, 108] : List UInt8))) : Option Bool).bind fun x1 =>
 cond x1
 (some (([110] : List UInt8), true))
 (cond (a0 == ([119, 99] : List UInt8))
 (some (([108, 119, 99] : List UInt8), true))
 (cond (a0 == ([115, 111, 114, 116] : List UInt8))
 (some (([114, 110, 117] : List UInt8), true))
 (cond (a0 == ([117, 110, 105, 113] : List UInt8))
 (some (([99] : List UInt8), true))
 (cond (a0 == ([103, 114, 101, 112] : List UInt8))
 (some (([118, 99, 113] : List UInt8), true))
 (cond (a0 == ([116, 101, 101] : List UInt8))
 (some (([97] : List UInt8), true))
 (cond (a0 == ([114, 109] : List UInt8))
 (some (([102] : List UInt8), true))
 ((cond (a0 == ([99, 97, 116] : List UInt8))
 (some (a0 == ([99, 97, 116] : List UInt8)))
 (cond (a0 == ([116, 111, 117, 99, 104] : List UInt8))
 (some (a0 == ([116, 111, 117, 99, 104] : List UInt8)))
 (cond (a0 == ([109, 107, 100, 105, 114] : List UInt8))
 (some (a0 == ([109, 107, 100, 105, 114] : List UInt8)))
 (cond (a0 == ([114, 109, 100, 105, 114] : List UInt8))
 (some (a0 == ([114, 109, 100, 105, 114] : List UInt8)))
 (cond (a0 == ([109, 118] : List UInt8))
 (some (a0 == ([109, 118] : List UInt8)))
 (cond (a0 == ([99, 112] : List UInt8))
 (some (a0 == ([99, 112] : List UInt8)))
 (cond (a0 == ([108, 115] : List UInt8))
 (some (a0 == ([108, 115] : List UInt8)))
 (cond (a0 == ([114, 101, 118] : List UInt8))
 (some (a0 == ([114, 101, 118] : List UInt8)))
 (some (a0 == ([112, 119, 100] : List UInt8)))))))))) : Option Bool).bind fun x2 =>
 cond x2
 (some ([], true))
 (some ([], false)))))))))
def util_letters_s : Shp := ⟨48, [.one (.dat .str)], [], [], ⟨.tup [.dat .str, .dat .bool], [], [], []⟩, none, []⟩
def util_letters_p : Plan := .seq [] none (.leaf) (.seq [] none (.seq [] none (.leaf) (.seq [] (some (⟨[(5, .one (.dat .bool))], [], [], []⟩, false)) (.leaf) (.cond (.leaf) (.seq [] none (.leaf) (.cond (.leaf) (.seq [] none (.leaf) (.cond (.leaf) (.seq [] none (.leaf) (.cond (.leaf) (.seq [] none (.leaf) (.cond (.leaf) (.seq [] none (.leaf) (.cond (.leaf) (.seq [] none (.leaf) (.cond (.leaf) (.seq [] (some (⟨[(20, .one (.dat .bool))], [], [], []⟩, false)) (.leaf) (.leaf))))))))))))))))) (.leaf))
def util_letters_c (F : Nat) : Ctr E := ⟨util_letters_s, fun (x : List UInt8) => util_letters F x⟩
theorem util_letters_ok (F : Nat) : (util_letters_c F).Ok Tryz.prog := Ctr.ok_of (X := ⟨Tryz.prog, tyT, [], [], none⟩) (F := F) ⟨E_ok, okN, mixed, goN, rvN⟩ (pl := util_letters_p) Tryz.func48 (by kernel_rfl) (fun x => by kernel_rfl)
/- internal/stringslite.IndexByte -/
def stringslite_IndexByte (F : Nat)  (a0 : List UInt8) (a1 : Int) : Option Int :=
 (indexByteString F a0 a1).bind fun x1 =>
 some x1
def stringslite_IndexByte_s : Shp := ⟨83, [.one (.dat .str), .one (.dat (.int .u8))], [], [], ⟨.one (.dat (.int .i64)), [], [], []⟩, none, []⟩
def stringslite_IndexByte_p : Plan := .leaf
def stringslite_IndexByte_c (F : Nat) : Ctr E := ⟨stringslite_IndexByte_s, fun (x : (List UInt8) × Int) => stringslite_IndexByte F x.1 x.2⟩
theorem stringslite_IndexByte_ok (F : Nat) : (stringslite_IndexByte_c F).Ok Tryz.prog := Ctr.ok_of (X := ⟨Tryz.prog, tyT, [indexByteString_c F], [], none⟩) (F := F) ⟨E_ok, okC (indexByteString_ok F) (okN), mixed, goN, rvN⟩ (pl := stringslite_IndexByte_p) Tryz.func83 (by kernel_rfl) (fun x => by kernel_rfl)
/- strings.IndexByte -/
def strings_IndexByte (F : Nat)  (a0 : List UInt8) (a1 : Int) : Option Int :=
 (stringslite_IndexByte F a0 a1).bind fun x1 =>
 some x1
def strings_IndexByte_s : Shp := ⟨49, [.one (.dat .str), .one (.dat (.int .u8))], [], [], ⟨.one (.dat (.int .i64)), [], [], []⟩, none, []⟩
def strings_IndexByte_p : Plan := .leaf
def strings_IndexByte_c (F : Nat) : Ctr E := ⟨strings_IndexByte_s, fun (x : (List UInt8) × Int) => strings_IndexByte F x.1 x.2⟩
theorem strings_IndexByte_ok (F : Nat) : (strings_IndexByte_c F).Ok Tryz.prog := Ctr.ok_of (X := ⟨Tryz.prog, tyT, [stringslite_IndexByte_c F], [], none⟩) (F := F) ⟨E_ok, okC (stringslite_IndexByte_ok F) (okN), mixed, goN, rvN⟩ (pl := strings_IndexByte_p) Tryz.func49 (by kernel_rfl) (fun x => by kernel_rfl)
/- jobshell/chars.digit -/
def chars_digit (F : Nat)  (a0 : Int) : Option Bool :=
 (cond (decide (48 ≤ a0))
 (some (decide (a0 ≤ 57)))
 (some false) : Option Bool).bind fun x1 =>
 some x1
def chars_digit_s : Shp := ⟨84, [.one (.dat (.int .i32))], [], [], ⟨.one (.dat .bool), [], [], []⟩, none, []⟩
def chars_digit_p : Plan := .seq [] none (.leaf) (.seq [] none (.region [(6, ⟨[(8, .one (.dat .bool))], [], [], []⟩, false)]) (.leaf))
def chars_digit_c (F : Nat) : Ctr E := ⟨chars_digit_s, fun (x : Int) => chars_digit F x⟩
theorem chars_digit_ok (F : Nat) : (chars_digit_c F).Ok Tryz.prog := Ctr.ok_of (X := ⟨Tryz.prog, tyT, [], [], none⟩) (F := F) ⟨E_ok, okN, mixed, goN, rvN⟩ (pl := chars_digit_p) Tryz.func84 (by kernel_rfl) (fun x => by kernel_rfl)
/- jobshell/chars.Digits -/
def chars_Digits (F : Nat)  (a0 : List UInt8) : Option (Int × Bool) :=
 cond (a0 == ([48] : List UInt8))
 (some (0, true))
 ((cond (a0 == [])
 (some true)
 (rq (decide (0 < (a0.length : Int))) (some (((a0.getD 0 0).toNat : Int) == 48))) : Option Bool).bind fun x1 =>
 cond x1
 (some (0, false))
 (loopF (σ := Int × (List UInt8) × Int) (R := Int × Bool) (fun rc3 x2 =>
 cond (Nat.blt (Int.toNat x2.2.2) x2.2.1.length)
 ((chars_digit F ((dec x2.2.1 (Int.toNat x2.2.2)).1 : Int)).bind fun x4 =>
 cond (!x4)
 (some (0, false))
 (cond (decide (2147483647 < w64 ((w64 (10 * x2.1)) + (w64 (IntKind.wrap .i32 (((dec x2.2.1 (Int.toNat x2.2.2)).1 : Int) - 48))))))
 (some (0, false))
 (rc3 (w64 ((w64 (10 * x2.1)) + (w64 (IntKind.wrap .i32 (((dec x2.2.1 (Int.toNat x2.2.2)).1 : Int) - 48)))), x2.2.1, ((((Int.toNat x2.2.2) + (dec x2.2.1 (Int.toNat x2.2.2)).2) : Nat) : Int)))))
 (some (x2.1, true))) F (0, a0, ((0 : Nat) : Int))))
def chars_Digits_s : Shp := ⟨50, [.one (.dat .str)], [], [], ⟨.tup [.dat (.int .i64), .dat .bool], [], [], []⟩, none, []⟩
def chars_Digits_p : Plan := .seq [] none (.leaf) (.seq [] none (.leaf) (.seq [] none (.seq [] none (.region [(7, ⟨[(15, .one (.dat .bool))], [], [], []⟩, false)]) (.leaf)) (.seq [] none (.leaf) (.seq [] none (.seq [] none (.leaf) (.loop [] ⟨[(4, .one (.dat (.int .i64)))], [some (.iter)], [], []⟩ (.leaf))) (.leaf)))))
def chars_Digits_c (F : Nat) : Ctr E := ⟨chars_Digits_s, fun (x : List UInt8) => chars_Digits F x⟩
theorem chars_Digits_ok (F : Nat) : (chars_Digits_c F).Ok Tryz.prog := Ctr.ok_of (X := ⟨Tryz.prog, tyT, [chars_digit_c F], [], none⟩) (F := F) ⟨E_ok, okC (chars_digit_ok F) (okN), mixed, goN, rvN⟩ (pl := chars_Digits_p) Tryz.func50 (by kernel_rfl) (fun x => by kernel_rfl)
/- jobshell/util.split -/
def util_split (F : Nat)  (a0 : List UInt8) (a1 : List (List UInt8)) : Option Twords :=
 (util_letters F a0).bind fun x1 =>
 cond (!x1.2)
 (some (Twords.mk a1 [] 10 false))
 (loopF (σ := Bool × Twords) (R := Twords) (fun rc3 x2 =>
 cond (decide (0 < (x2.2.foperands.length : Int)))
 (rq (decide (0 < (x2.2.foperands.length : Int))) ((cond (decide (((x2.2.foperands.getD 0 []).length : Int) < 2))
 (some true)
 (rq (decide (0 < ((x2.2.foperands.getD 0 []).length : Int))) (some ((((x2.2.foperands.getD 0 []).getD 0 0).toNat : Int) != 45))) : Option Bool).bind fun x4 =>
 cond x4
 (some x2.2)
 (rq ((decide (1 ≤ (x2.2.foperands.length : Int))) && (decide ((x2.2.foperands.length : Int) ≤ (x2.2.foperands.length : Int)))) (cond ((x2.2.foperands.getD 0 []) == ([45, 45] : List UInt8))
 (some ({ x2.2 with foperands := sl x2.2.foperands 1 (x2.2.foperands.length : Int) }))
 ((cond (decide (2 < ((x2.2.foperands.getD 0 []).length : Int)))
 (some true)
 (rq (decide (1 < ((x2.2.foperands.getD 0 []).length : Int))) ((strings_IndexByte F x1.1 (((x2.2.foperands.getD 0 []).getD 1 0).toNat : Int)).bind fun x6 =>
 some (decide (x6 < 0)))) : Option Bool).bind fun x5 =>
 cond x5
 (some (Twords.mk (sl x2.2.foperands 1 (x2.2.foperands.length : Int)) x2.2.fletters x2.2.fcount true))
 (rq ((decide (1 ≤ ((x2.2.foperands.getD 0 []).length : Int))) && (decide (((x2.2.foperands.getD 0 []).length : Int) ≤ ((x2.2.foperands.getD 0 []).length : Int)))) (rq (decide (x2.2.fletters.length + (sl (x2.2.foperands.getD 0 []) 1 ((x2.2.foperands.getD 0 []).length : Int)).length ≤ 9223372036854775807)) ((rq (decide (1 < ((x2.2.foperands.getD 0 []).length : Int))) (cond ((((x2.2.foperands.getD 0 []).getD 1 0).toNat : Int) != 110)
 (some true)
 (some (a0 == ([115, 111, 114, 116] : List UInt8)))) : Option Bool).bind fun x7 =>
 cond x7
 (rc3 (x2.1, (Twords.mk (sl x2.2.foperands 1 (x2.2.foperands.length : Int)) (x2.2.fletters ++ (sl (x2.2.foperands.getD 0 []) 1 ((x2.2.foperands.getD 0 []).length : Int))) x2.2.fcount x2.2.fbad)))
 ((cond (decide (0 < ((sl x2.2.foperands 1 (x2.2.foperands.length : Int)).length : Int)))
 (rq (decide (0 < ((sl x2.2.foperands 1 (x2.2.foperands.length : Int)).length : Int))) ((chars_Digits F ((sl x2.2.foperands 1 (x2.2.foperands.length : Int)).getD 0 [])).bind fun x9 =>
 some (x9.2, (Twords.mk (sl x2.2.foperands 1 (x2.2.foperands.length : Int)) (x2.2.fletters ++ (sl (x2.2.foperands.getD 0 []) 1 ((x2.2.foperands.getD 0 []).length : Int))) x9.1 x2.2.fbad))))
 (some (x2.1, (Twords.mk (sl x2.2.foperands 1 (x2.2.foperands.length : Int)) (x2.2.fletters ++ (sl (x2.2.foperands.getD 0 []) 1 ((x2.2.foperands.getD 0 []).length : Int))) x2.2.fcount x2.2.fbad))) : Option (Bool × Twords)).bind fun x8 =>
 (cond ((x8.2.foperands.length : Int) == 0)
 (some true)
 (some (!x8.1)) : Option Bool).bind fun x10 =>
 cond x10
 (some ({ x8.2 with fbad := true }))
 (rq ((decide (1 ≤ (x8.2.foperands.length : Int))) && (decide ((x8.2.foperands.length : Int) ≤ (x8.2.foperands.length : Int)))) (rc3 (x8.1, { x8.2 with foperands := sl x8.2.foperands 1 (x8.2.foperands.length : Int) }))))))))))))
 (some x2.2)) F (x1.2, (Twords.mk a1 [] 10 false)))
def util_split_s : Shp := ⟨31, [.one (.dat .str), .one (.dat (.lst .str))], [], [], ⟨.one (.dat (.ext 2)), [], [], []⟩, none, []⟩
def util_split_p : Plan := .seq [] none (.leaf) (.seq [] none (.leaf) (.seq [] none (.leaf) (.seq [] none (.leaf) (.seq [] none (.loop [] ⟨[(7, .one (.dat .bool))], [none, some (.cells 61 [.pk (.ext 2)])], [], []⟩ (.seq [] none (.leaf) (.seq [] none (.leaf) (.seq [] none (.seq [] none (.region [(8, ⟨[(34, .one (.dat .bool))], [none, none], [], []⟩, false)]) (.leaf)) (.seq [] none (.leaf) (.seq [] none (.leaf) (.seq [] none (.seq [] none (.region [(10, ⟨[(50, .one (.dat .bool))], [none, none], [], []⟩, false)]) (.leaf)) (.seq [] none (.draw [⟨true, 6, none⟩, ⟨false, 1, none⟩]) (.seq [] none (.seq [] none (.region [(7, ⟨[(64, .one (.dat .bool))], [none, none], [], []⟩, false)]) (.leaf)) (.seq [] (some (⟨[(7, .one (.dat .bool))], [none, some (.cells 61 [.pk (.ext 2)])], [], []⟩, false)) (.leaf) (.seq [] none (.seq [] none (.region [(8, ⟨[(85, .one (.dat .bool))], [none, none], [], []⟩, false)]) (.leaf)) (.leaf)))))))))))) (.leaf)))))
def util_split_c (F : Nat) : Ctr E := ⟨util_split_s, fun (x : (List UInt8) × (List (List UInt8))) => util_split F x.1 x.2⟩
theorem util_split_ok (F : Nat) : (util_split_c F).Ok Tryz.prog := Ctr.ok_of (X := ⟨Tryz.prog, tyT, [util_letters_c F, strings_IndexByte_c F, chars_Digits_c F], [], none⟩) (F := F) ⟨E_ok, okC (util_letters_ok F) (okC (strings_IndexByte_ok F) (okC (chars_Digits_ok F) (okN))), mixed, goN, rvN⟩ (pl := util_split_p) Tryz.func31 (by kernel_rfl) (fun x => by kernel_rfl)
/- jobshell/util.load -/
def util_load (F : Nat)  (a0 : TUtil) : Option (TUtil × TUtil × Twords × TAinti648 × (List Int)) :=
 (cond (decide (0 < (a0.fArgs.length : Int)))
 (rq ((decide (1 ≤ (a0.fArgs.length : Int))) && (decide ((a0.fArgs.length : Int) ≤ (a0.fArgs.length : Int)))) ((util_split F a0.fName (sl a0.fArgs 1 (a0.fArgs.length : Int))).bind fun x2 =>
 some (a0, x2, (0, (0, (0, (0, (0, (0, (0, (0, ())))))))), ([] : List Int))))
 (some (a0, (Twords.mk [] [] 0 false), (0, (0, (0, (0, (0, (0, (0, (0, ())))))))), ([] : List Int))) : Option (TUtil × Twords × TAinti648 × (List Int))).bind fun x1 =>
 loopF (σ := Int × TUtil × Twords × TAinti648 × (List Int)) (R := TUtil × TUtil × Twords × TAinti648 × (List Int)) (fun rc4 x3 =>
 cond (decide (x3.1 < (a0.fLines.length : Int)))
 (rq ((decide (0 ≤ x3.1)) && (decide (x3.1 < (a0.fLines.length : Int)))) ((atoiF F (a0.fLines.getD (Int.toNat x3.1) [])).bind fun x5 =>
 cond (decide (x3.1 < 8))
 (cond (decide (x3.1 = 0))
 (rc4 (w64 (x3.1 + 1), x3.2.1, x3.2.2.1, (x5, x3.2.2.2.1.2), x3.2.2.2.2))
 (cond (decide (x3.1 = 1))
 (rc4 (w64 (x3.1 + 1), x3.2.1, x3.2.2.1, (x3.2.2.2.1.1, (x5, x3.2.2.2.1.2.2)), x3.2.2.2.2))
 (cond (decide (x3.1 = 2))
 (rc4 (w64 (x3.1 + 1), x3.2.1, x3.2.2.1, (x3.2.2.2.1.1, (x3.2.2.2.1.2.1, (x5, x3.2.2.2.1.2.2.2))), x3.2.2.2.2))
 (cond (decide (x3.1 = 3))
 (rc4 (w64 (x3.1 + 1), x3.2.1, x3.2.2.1, (x3.2.2.2.1.1, (x3.2.2.2.1.2.1, (x3.2.2.2.1.2.2.1, (x5, x3.2.2.2.1.2.2.2.2)))), x3.2.2.2.2))
 (cond (decide (x3.1 = 4))
 (rc4 (w64 (x3.1 + 1), x3.2.1, x3.2.2.1, (x3.2.2.2.1.1, (x3.2.2.2.1.2.1, (x3.2.2.2.1.2.2.1, (x3.2.2.2.1.2.2.2.1, (x5, x3.2.2.2.1.2.2.2.2.2))))), x3.2.2.2.2))
 (cond (decide (x3.1 = 5))
 (rc4 (w64 (x3.1 + 1), x3.2.1, x3.2.2.1, (x3.2.2.2.1.1, (x3.2.2.2.1.2.1, (x3.2.2.2.1.2.2.1, (x3.2.2.2.1.2.2.2.1, (x3.2.2.2.1.2.2.2.2.1, (x5, x3.2.2.2.1.2.2.2.2.2.2)))))), x3.2.2.2.2))
 (cond (decide (x3.1 = 6))
 (rc4 (w64 (x3.1 + 1), x3.2.1, x3.2.2.1, (x3.2.2.2.1.1, (x3.2.2.2.1.2.1, (x3.2.2.2.1.2.2.1, (x3.2.2.2.1.2.2.2.1, (x3.2.2.2.1.2.2.2.2.1, (x3.2.2.2.1.2.2.2.2.2.1, (x5, x3.2.2.2.1.2.2.2.2.2.2.2))))))), x3.2.2.2.2))
 (cond (decide (x3.1 = 7))
 (rc4 (w64 (x3.1 + 1), x3.2.1, x3.2.2.1, (x3.2.2.2.1.1, (x3.2.2.2.1.2.1, (x3.2.2.2.1.2.2.1, (x3.2.2.2.1.2.2.2.1, (x3.2.2.2.1.2.2.2.2.1, (x3.2.2.2.1.2.2.2.2.2.1, (x3.2.2.2.1.2.2.2.2.2.2.1, (x5, ())))))))), x3.2.2.2.2))
 (none)))))))))
 (rq ((decide (x3.2.2.2.2.length + ([x5] : List Int).length ≤ 9223372036854775807)) && (decide ((x3.2.2.2.2.length + ([x5] : List Int).length) * 8 ≤ 140737488355328))) (rc4 (w64 (x3.1 + 1), x3.2.1, x3.2.2.1, x3.2.2.2.1, x3.2.2.2.2 ++ ([x5] : List Int))))))
 (some (a0, x3.2.1, x3.2.2.1, x3.2.2.2.1, x3.2.2.2.2))) F (0, x1.1, x1.2.1, x1.2.2.1, x1.2.2.2)
def util_load_s : Shp := ⟨25, [.one (.dat (.ext 0))], [], [], ⟨.one (.ptr 1 0), [some (.cells 26 [.pk (.ext 0)]), some (bt0)], [some (3, 1)], []⟩, none, []⟩
def util_load_p : Plan := .seq [] none (.leaf) (.seq [] none (.leaf) (.seq [.cell 1 20 3 (.int .i64)] (some (⟨[], [none, some (bt0)], [none], []⟩, false)) (.seq [] none (.leaf) (.cond (.draw [⟨true, 6, none⟩, ⟨false, 4, none⟩]) (.leaf))) (.seq [] none (.seq [] none (.leaf) (.loop [] ⟨[(27, .one (.dat (.int .i64)))], [none, some (bt0)], [some (3, 1)], []⟩ (.leaf))) (.leaf))))
def util_load_c (F : Nat) : Ctr E := ⟨util_load_s, fun (x : TUtil) => util_load F x⟩
theorem util_load_ok (F : Nat) : (util_load_c F).Ok Tryz.prog := Ctr.ok_of (X := ⟨Tryz.prog, tyT, [util_split_c F, strconvAtoi_c F], [], none⟩) (F := F) ⟨E_ok, okC (util_split_ok F) (okC (strconvAtoi_ok F) (okN)), mixed, goN, rvN⟩ (pl := util_load_p) Tryz.func25 (by kernel_rfl) (fun x => by kernel_rfl)
/- jobshell/util.element -/
def util_element (F : Nat)  (a0 : List (List UInt8)) (a1 : Int) : Option (List UInt8) :=
 (cond (decide (a1 < 0))
 (some true)
 (some (decide ((a0.length : Int) ≤ a1))) : Option Bool).bind fun x1 =>
 cond x1
 (some [])
 (rq ((decide (0 ≤ a1)) && (decide (a1 < (a0.length : Int)))) (some (a0.getD (Int.toNat a1) [])))
def util_element_s : Shp := ⟨38, [.one (.dat (.lst .str)), .one (.dat (.int .i64))], [], [], ⟨.one (.dat .str), [], [], []⟩, none, []⟩
def util_element_p : Plan := .seq [] none (.leaf) (.seq [] none (.seq [] none (.region [(8, ⟨[(12, .one (.dat .bool))], [], [], []⟩, false)]) (.leaf)) (.leaf))
def util_element_c (F : Nat) : Ctr E := ⟨util_element_s, fun (x : (List (List UInt8)) × Int) => util_element F x.1 x.2⟩
theorem util_element_ok (F : Nat) : (util_element_c F).Ok Tryz.prog := Ctr.ok_of (X := ⟨Tryz.prog, tyT, [], [], none⟩) (F := F) ⟨E_ok, okN, mixed, goN, rvN⟩ (pl := util_element_p) Tryz.func38 (by kernel_rfl) (fun x => by kernel_rfl)
/- (jobshell/util.words).has -/
def util_words_has (F : Nat)  (a0 : Twords) (a1 : Int) : Option Bool :=
 (strings_IndexByte F a0.fletters a1).bind fun x1 =>
 some (decide (0 ≤ x1))
def util_words_has_s : Shp := ⟨91, [.one (.dat (.ext 2)), .one (.dat (.int .u8))], [], [], ⟨.one (.dat .bool), [], [], []⟩, none, []⟩
def util_words_has_p : Plan := .leaf
def util_words_has_c (F : Nat) : Ctr E := ⟨util_words_has_s, fun (x : Twords × Int) => util_words_has F x.1 x.2⟩
theorem util_words_has_ok (F : Nat) : (util_words_has_c F).Ok Tryz.prog := Ctr.ok_of (X := ⟨Tryz.prog, tyT, [strings_IndexByte_c F], [], none⟩) (F := F) ⟨E_ok, okC (strings_IndexByte_ok F) (okN), mixed, goN, rvN⟩ (pl := util_words_has_p) Tryz.func91 (by kernel_rfl) (fun x => by kernel_rfl)
/- (*jobshell/util.engine).fits -/
def util_engine_fits (F : Nat)  (a0 : Int) (a1 : TUtil) (a2 : Twords) (a3 : TAinti648) (a4 : List Int) : Option Bool :=
 cond (a1.fName == ([91] : List UInt8))
 ((cond (decide (0 < a0))
 (rq ((decide (0 ≤ w64 (a0 - 1))) && (decide (w64 (a0 - 1) < (a2.foperands.length : Int)))) (some ((a2.foperands.getD (Int.toNat (w64 (a0 - 1))) []) == ([93] : List UInt8))))
 (some false) : Option Bool).bind fun x1 =>
 some x1)
 (cond (a1.fName == ([115, 108, 101, 101, 112] : List UInt8))
 ((util_element F a2.foperands 0).bind fun x2 =>
 (chars_Digits F x2).bind fun x3 =>
 (cond (a0 == 1)
 (some x3.2)
 (some false) : Option Bool).bind fun x4 =>
 some x4)
 (cond (a1.fName == ([115, 101, 113] : List UInt8))
 ((util_element F a2.foperands 0).bind fun _ =>
 none)
 (cond (a1.fName == ([114, 109] : List UInt8))
 ((cond (decide (0 < a0))
 (some true)
 ((util_words_has F a2 102).bind fun x7 =>
 some x7) : Option Bool).bind fun x6 =>
 some x6)
 ((cond (a1.fName == ([103, 114, 101, 112] : List UInt8))
 (some (a1.fName == ([103, 114, 101, 112] : List UInt8)))
 (cond (a1.fName == ([116, 111, 117, 99, 104] : List UInt8))
 (some (a1.fName == ([116, 111, 117, 99, 104] : List UInt8)))
 (cond (a1.fName == ([109, 107, 100, 105, 114] : List UInt8))
 (some (a1.fName == ([109, 107, 100, 105, 114] : List UInt8)))
 (cond (a1.fName == ([114, 109, 100, 105, 114] : List UInt8))
 (some (a1.fName == ([114, 109, 100, 105, 114] : List UInt8)))
 (some (a1.fName == ([107, 105, 108, 108] : List UInt8)))))) : Option Bool).bind fun x8 =>
 cond x8
 (some (decide (0 < a0)))
 ((cond (a1.fName == ([109, 118] : List UInt8))
 (some (a1.fName == ([109, 118] : List UInt8)))
 (some (a1.fName == ([99, 112] : List UInt8))) : Option Bool).bind fun x9 =>
 cond x9
 (some (a0 == 2))
 (some true))))))
def util_engine_fits_s : Shp := ⟨53, [.one (.ptr 0 0), .one (.dat (.int .i64))], [(bt0)], [(3, 1)], ⟨.one (.dat .bool), [none], [none], []⟩, none, []⟩
def util_engine_fits_p : Plan := .seq [] none (.leaf) (.seq [] none (.seq [] none (.leaf) (.seq [] none (.leaf) (.cond (.seq [] none (.region [(14, ⟨[(31, .one (.dat .bool))], [none], [none], []⟩, false)]) (.leaf)) (.seq [] none (.leaf) (.cond (.seq [] none (.leaf) (.seq [] none (.region [(5, ⟨[(48, .one (.dat .bool))], [none], [none], []⟩, false)]) (.leaf))) (.seq [] none (.leaf) (.cond (.leaf) (.seq [] none (.leaf) (.cond (.seq [] none (.region [(9, ⟨[(95, .one (.dat .bool))], [none], [none], []⟩, false)]) (.leaf)) (.seq [] (some (⟨[(96, .one (.dat .bool))], [none], [none], []⟩, false)) (.leaf) (.cond (.leaf) (.seq [] (some (⟨[(104, .one (.dat .bool))], [none], [none], []⟩, false)) (.leaf) (.leaf))))))))))))) (.leaf))
def util_engine_fits_c (F : Nat) : Ctr E := ⟨util_engine_fits_s, fun (x : Int × TUtil × Twords × TAinti648 × (List Int)) => util_engine_fits F x.1 x.2.1 x.2.2.1 x.2.2.2.1 x.2.2.2.2⟩
theorem util_engine_fits_ok (F : Nat) : (util_engine_fits_c F).Ok Tryz.prog := Ctr.ok_of (X := ⟨Tryz.prog, tyT, [util_element_c F, chars_Digits_c F, absurd90_c F, util_words_has_c F], [], none⟩) (F := F) ⟨E_ok, okC (util_element_ok F) (okC (chars_Digits_ok F) (okC (absurd90_ok F) (okC (util_words_has_ok F) (okN)))), mixed, goN, rvN⟩ (pl := util_engine_fits_p) Tryz.func53 (by kernel_rfl) (fun x => by kernel_rfl)
/- (*jobshell/util.engine).write -/
def util_engine_write (F : Nat)  (a0 : Int) (a1 : List UInt8) (a2 : Int) (a3 : TUtil) (a4 : Twords) (a5 : TAinti648) (a6 : List Int) : Option (TUtil × Twords × TAinti648 × (List Int)) :=
 cond (a1 == [])
 (some ({ a3 with fState := a2 }, a4, a5, a6))
 (some ({ a3 with fState := 1, fOut := a1 }, a4, (a2, (a0, a5.2.2)), a6))
def util_engine_write_s : Shp := ⟨36, [.one (.ptr 0 0), .one (.dat (.int .i64)), .one (.dat .str), .one (.dat (.int .i64))], [(bt0)], [(3, 1)], ⟨.tup [], [some (bt0)], [none], []⟩, none, []⟩
def util_engine_write_p : Plan := .seq [] none (.leaf) (.seq [] none (.leaf) (.drawP [] [] [⟨[(0, true), (1, true), (2, true), (3, true), (4, true), (5, true), (6, true), (8, true), (9, true), (7, false), (10, false), (11, false)], none⟩]))
def util_engine_write_c (F : Nat) : Ctr E := ⟨util_engine_write_s, fun (x : Int × (List UInt8) × Int × TUtil × Twords × TAinti648 × (List Int)) => util_engine_write F x.1 x.2.1 x.2.2.1 x.2.2.2.1 x.2.2.2.2.1 x.2.2.2.2.2.1 x.2.2.2.2.2.2⟩
theorem util_engine_write_ok (F : Nat) : (util_engine_write_c F).Ok Tryz.prog := Ctr.ok_of (X := ⟨Tryz.prog, tyT, [], [], none⟩) (F := F) ⟨E_ok, okN, mixed, goN, rvN⟩ (pl := util_engine_write_p) Tryz.func36 (by kernel_rfl) (fun x => by kernel_rfl)
/- (*jobshell/util.engine).usage -/
def util_engine_usage (F : Nat)  (a0 : TUtil) (a1 : Twords) (a2 : TAinti648) (a3 : List Int) : Option (TUtil × Twords × TAinti648 × (List Int)) :=
 rq (decide (a0.fName.length + ([58, 32, 117, 115, 97, 103, 101, 10] : List UInt8).length ≤ 9223372036854775807)) ((util_engine_write F 2 (a0.fName ++ ([58, 32, 117, 115, 97, 103, 101, 10] : List UInt8)) 4 ({ a0 with fN := 2 }) a1 a2 a3).bind fun x1 =>
 some (x1.1, x1.2.1, x1.2.2.1, x1.2.2.2))
def util_engine_usage_s : Shp := ⟨54, [.one (.ptr 0 0)], [(bt0)], [(3, 1)], ⟨.tup [], [some (bt0)], [none], []⟩, none, []⟩
def util_engine_usage_p : Plan := .leaf
def util_engine_usage_c (F : Nat) : Ctr E := ⟨util_engine_usage_s, fun (x : TUtil × Twords × TAinti648 × (List Int)) => util_engine_usage F x.1 x.2.1 x.2.2.1 x.2.2.2⟩
theorem util_engine_usage_ok (F : Nat) : (util_engine_usage_c F).Ok Tryz.prog := Ctr.ok_of (X := ⟨Tryz.prog, tyT, [util_engine_write_c F], [], none⟩) (F := F) ⟨E_ok, okC (util_engine_write_ok F) (okN), mixed, goN, rvN⟩ (pl := util_engine_usage_p) Tryz.func54 (by kernel_rfl) (fun x => by kernel_rfl)
/- (*jobshell/util.engine).exit -/
def util_engine_exit (F : Nat)  (a0 : Int) (a1 : TUtil) (a2 : Twords) (a3 : TAinti648) (a4 : List Int) : Option (TUtil × Twords × TAinti648 × (List Int)) :=
 some ({ a1 with fState := 4, fN := a0 }, a2, a3, a4)
def util_engine_exit_s : Shp := ⟨28, [.one (.ptr 0 0), .one (.dat (.int .i64))], [(bt0)], [(3, 1)], ⟨.tup [], [some (bt0)], [none], []⟩, none, []⟩
def util_engine_exit_p : Plan := .leaf
def util_engine_exit_c (F : Nat) : Ctr E := ⟨util_engine_exit_s, fun (x : Int × TUtil × Twords × TAinti648 × (List Int)) => util_engine_exit F x.1 x.2.1 x.2.2.1 x.2.2.2.1 x.2.2.2.2⟩
theorem util_engine_exit_ok (F : Nat) : (util_engine_exit_c F).Ok Tryz.prog := Ctr.ok_of (X := ⟨Tryz.prog, tyT, [], [], none⟩) (F := F) ⟨E_ok, okN, mixed, goN, rvN⟩ (pl := util_engine_exit_p) Tryz.func28 (by kernel_rfl) (fun x => by kernel_rfl)
/- (*jobshell/util.engine).ask -/
def util_engine_ask (F : Nat)  (a0 : Int) (a1 : TReq) (a2 : TUtil) (a3 : Twords) (a4 : TAinti648) (a5 : List Int) : Option (TReq × Bool × TUtil × Twords × TAinti648 × (List Int)) :=
 some (a1, true, { a2 with fState := a0 }, a3, a4, a5)
def util_engine_ask_s : Shp := ⟨34, [.one (.ptr 0 0), .one (.dat (.int .i64)), .one (.dat (.ext 3))], [(bt0)], [(3, 1)], ⟨.tup [.dat (.ext 3), .dat .bool], [some (bt0)], [none], []⟩, none, []⟩
def util_engine_ask_p : Plan := .leaf
def util_engine_ask_c (F : Nat) : Ctr E := ⟨util_engine_ask_s, fun (x : Int × TReq × TUtil × Twords × TAinti648 × (List Int)) => util_engine_ask F x.1 x.2.1 x.2.2.1 x.2.2.2.1 x.2.2.2.2.1 x.2.2.2.2.2⟩
theorem util_engine_ask_ok (F : Nat) : (util_engine_ask_c F).Ok Tryz.prog := Ctr.ok_of (X := ⟨Tryz.prog, tyT, [], [], none⟩) (F := F) ⟨E_ok, okN, mixed, goN, rvN⟩ (pl := util_engine_ask_p) Tryz.func34 (by kernel_rfl) (fun x => by kernel_rfl)
/- (*jobshell/util.engine).move -/
def util_engine_move (F : Nat)  (a0 : Int) (a1 : TUtil) (a2 : Twords) (a3 : TAinti648) (a4 : List Int) : Option (TReq × Bool × TUtil × Twords × TAinti648 × (List Int)) :=
 some ((TReq.mk 0 0 0 0 0 0 0 0 [] [] [] []), false, { a1 with fState := a0 }, a2, a3, a4)
def util_engine_move_s : Shp := ⟨68, [.one (.ptr 0 0), .one (.dat (.int .i64))], [(bt0)], [(3, 1)], ⟨.tup [.dat (.ext 3), .dat .bool], [some (bt0)], [none], []⟩, none, []⟩
def util_engine_move_p : Plan := .leaf
def util_engine_move_c (F : Nat) : Ctr E := ⟨util_engine_move_s, fun (x : Int × TUtil × Twords × TAinti648 × (List Int)) => util_engine_move F x.1 x.2.1 x.2.2.1 x.2.2.2.1 x.2.2.2.2⟩
theorem util_engine_move_ok (F : Nat) : (util_engine_move_c F).Ok Tryz.prog := Ctr.ok_of (X := ⟨Tryz.prog, tyT, [], [], none⟩) (F := F) ⟨E_ok, okN, mixed, goN, rvN⟩ (pl := util_engine_move_p) Tryz.func68 (by kernel_rfl) (fun x => by kernel_rfl)
/- (*jobshell/util.engine).start -/
def util_engine_start (F : Nat)  (a0 : TUtil) (a1 : Twords) (a2 : TAinti648) (a3 : List Int) : Option (TReq × Bool × TUtil × Twords × TAinti648 × (List Int)) :=
 jj (σ := TUtil × Twords × TAinti648 × (List Int)) (R := TReq × Bool × TUtil × Twords × TAinti648 × (List Int)) (cond (a0.fName == ([104, 101, 97, 100] : List UInt8))
 (cond (a1.fcount == 0)
 ((util_engine_move F 3 a0 a1 (a2.1, (a2.2.1, (a2.2.2.1, (a2.2.2.2.1, (a2.2.2.2.2.1, (a2.2.2.2.2.2.1, (a1.fcount, a2.2.2.2.2.2.2.2))))))) a3).bind fun x2 =>
 some (.inr (x2.1, x2.2.1, x2.2.2.1, x2.2.2.2.1, x2.2.2.2.2.1, x2.2.2.2.2.2)))
 (some (.inl (a0, a1, (a2.1, (a2.2.1, (a2.2.2.1, (a2.2.2.2.1, (a2.2.2.2.2.1, (a2.2.2.2.2.2.1, (a1.fcount, a2.2.2.2.2.2.2.2))))))), a3))))
 (cond (a0.fName == ([116, 101, 101] : List UInt8))
 ((util_engine_move F 17 a0 a1 a2 a3).bind fun x3 =>
 some (.inr (x3.1, x3.2.1, x3.2.2.1, x3.2.2.2.1, x3.2.2.2.2.1, x3.2.2.2.2.2)))
 ((cond (a0.fName == ([116, 111, 117, 99, 104] : List UInt8))
 (some (a0.fName == ([116, 111, 117, 99, 104] : List UInt8)))
 (cond (a0.fName == ([114, 109] : List UInt8))
 (some (a0.fName == ([114, 109] : List UInt8)))
 (cond (a0.fName == ([109, 107, 100, 105, 114] : List UInt8))
 (some (a0.fName == ([109, 107, 100, 105, 114] : List UInt8)))
 (cond (a0.fName == ([114, 109, 100, 105, 114] : List UInt8))
 (some (a0.fName == ([114, 109, 100, 105, 114] : List UInt8)))
 (cond (a0.fName == ([108, 115] : List UInt8))
 (some (a0.fName == ([108, 115] : List UInt8)))
 (some (a0.fName == ([107, 105, 108, 108] : List UInt8))))))) : Option Bool).bind fun x4 =>
 cond x4
 ((util_engine_move F 19 a0 a1 a2 a3).bind fun x5 =>
 some (.inr (x5.1, x5.2.1, x5.2.2.1, x5.2.2.2.1, x5.2.2.2.2.1, x5.2.2.2.2.2)))
 (cond (a0.fName == ([109, 118] : List UInt8))
 (rq (decide (1 < (a1.foperands.length : Int))) ((util_engine_ask F 23 (TReq.mk 21 0 0 0 0 0 0 0 (a1.foperands.getD 1 []) [] [] []) a0 a1 a2 a3).bind fun x6 =>
 some (.inr (x6.1, x6.2.1, x6.2.2.1, x6.2.2.2.1, x6.2.2.2.2.1, x6.2.2.2.2.2))))
 (cond (a0.fName == ([99, 112] : List UInt8))
 (rq (decide (0 < (a1.foperands.length : Int))) ((util_engine_ask F 25 (TReq.mk 3 0 0 0 0 0 3 1 (a1.foperands.getD 0 []) [] [] []) a0 a1 a2 a3).bind fun x7 =>
 some (.inr (x7.1, x7.2.1, x7.2.2.1, x7.2.2.2.1, x7.2.2.2.2.1, x7.2.2.2.2.2))))
 ((cond (a0.fName == ([99, 97, 116] : List UInt8))
 (some (a0.fName == ([99, 97, 116] : List UInt8)))
 (cond (a0.fName == ([116, 97, 105, 108] : List UInt8))
 (some (a0.fName == ([116, 97, 105, 108] : List UInt8)))
 (cond (a0.fName == ([119, 99] : List UInt8))
 (some (a0.fName == ([119, 99] : List UInt8)))
 (cond (a0.fName == ([115, 111, 114, 116] : List UInt8))
 (some (a0.fName == ([115, 111, 114, 116] : List UInt8)))
 (cond (a0.fName == ([117, 110, 105, 113] : List UInt8))
 (some (a0.fName == ([117, 110, 105, 113] : List UInt8)))
 (cond (a0.fName == ([103, 114, 101, 112] : List UInt8))
 (some (a0.fName == ([103, 114, 101, 112] : List UInt8)))
 (some (a0.fName == ([114, 101, 118] : List UInt8)))))))) : Option Bool).bind fun x8 =>
 cond x8
 (some (.inl (a0, a1, a2, a3)))
 ((util_engine_move F 3 a0 a1 a2 a3).bind fun x9 =>
 some (.inr (x9.1, x9.2.1, x9.2.2.1, x9.2.2.2.1, x9.2.2.2.2.1, x9.2.2.2.2.2))))))))) fun x1 =>
 (util_engine_move F 10 x1.1 x1.2.1 x1.2.2.1 x1.2.2.2).bind fun x10 =>
 some (x10.1, x10.2.1, x10.2.2.1, x10.2.2.2.1, x10.2.2.2.2.1, x10.2.2.2.2.2)
def util_engine_start_s : Shp := ⟨62, [.one (.ptr 0 0)], [(bt0)], [(3, 1)], ⟨.tup [.dat (.ext 3), .dat .bool], [some (bt0)], [none], []⟩, none, []⟩
def util_engine_start_p : Plan := .seq [] none (.leaf) (.seq [] (some (⟨[], [some (bt0), none], [none], []⟩, true)) (.seq [] none (.leaf) (.seq [] none (.leaf) (.cond (.seq [] none (.draw [⟨true, 9, none⟩, ⟨false, 1, none⟩]) (.leaf)) (.seq [] none (.leaf) (.cond (.leaf) (.seq [] (some (⟨[(40, .one (.dat .bool))], [none, none], [none], []⟩, false)) (.leaf) (.cond (.leaf) (.seq [] none (.leaf) (.cond (.leaf) (.seq [] none (.leaf) (.cond (.leaf) (.seq [] (some (⟨[(79, .one (.dat .bool))], [none, none], [none], []⟩, false)) (.leaf) (.leaf))))))))))))) (.leaf))
def util_engine_start_c (F : Nat) : Ctr E := ⟨util_engine_start_s, fun (x : TUtil × Twords × TAinti648 × (List Int)) => util_engine_start F x.1 x.2.1 x.2.2.1 x.2.2.2⟩
theorem util_engine_start_ok (F : Nat) : (util_engine_start_c F).Ok Tryz.prog := Ctr.ok_of (X := ⟨Tryz.prog, tyT, [util_engine_move_c F, util_engine_ask_c F], [], none⟩) (F := F) ⟨E_ok, okC (util_engine_move_ok F) (okC (util_engine_ask_ok F) (okN)), mixed, goN, rvN⟩ (pl := util_engine_start_p) Tryz.func62 (by kernel_rfl) (fun x => by kernel_rfl)
/- (*jobshell/util.engine).begin -/
def util_engine_begin (F : Nat)  (a0 : TUtil) (a1 : Twords) (a2 : TAinti648) (a3 : List Int) : Option (TReq × Bool × TUtil × Twords × TAinti648 × (List Int)) :=
 (cond a1.fbad
 (some true)
 ((util_engine_fits F (a1.foperands.length : Int) a0 a1 a2 a3).bind fun x2 =>
 some (!x2)) : Option Bool).bind fun x1 =>
 cond x1
 ((util_engine_usage F a0 a1 a2 a3).bind fun x3 =>
 some ((TReq.mk 0 0 0 0 0 0 0 0 [] [] [] []), false, x3.1, x3.2.1, x3.2.2.1, x3.2.2.2))
 (cond (a0.fName == ([116, 114, 117, 101] : List UInt8))
 ((util_engine_exit F 0 a0 a1 a2 a3).bind fun x4 =>
 some ((TReq.mk 0 0 0 0 0 0 0 0 [] [] [] []), false, x4.1, x4.2.1, x4.2.2.1, x4.2.2.2))
 (cond (a0.fName == ([102, 97, 108, 115, 101] : List UInt8))
 ((util_engine_exit F 1 a0 a1 a2 a3).bind fun x5 =>
 some ((TReq.mk 0 0 0 0 0 0 0 0 [] [] [] []), false, x5.1, x5.2.1, x5.2.2.1, x5.2.2.2))
 (cond (a0.fName == ([101, 99, 104, 111] : List UInt8))
 (none)
 (cond (a0.fName == ([112, 114, 105, 110, 116, 102] : List UInt8))
 (none)
 (cond (a0.fName == ([112, 119, 100] : List UInt8))
 (none)
 ((cond (a0.fName == ([116, 101, 115, 116] : List UInt8))
 (some (a0.fName == ([116, 101, 115, 116] : List UInt8)))
 (some (a0.fName == ([91] : List UInt8))) : Option Bool).bind fun x6 =>
 cond x6
 (none)
 (cond (a0.fName == ([121, 101, 115] : List UInt8))
 (cond (decide (0 < (a1.foperands.length : Int)))
 (none)
 ((util_engine_write F 1 ([121, 10] : List UInt8) 6 ({ a0 with fBuf := ([121, 10] : List UInt8) }) a1 a2 a3).bind fun x7 =>
 some ((TReq.mk 0 0 0 0 0 0 0 0 [] [] [] []), false, x7.1, x7.2.1, x7.2.2.1, x7.2.2.2)))
 (cond (a0.fName == ([115, 108, 101, 101, 112] : List UInt8))
 (rq (decide (0 < (a1.foperands.length : Int))) ((chars_Digits F (a1.foperands.getD 0 [])).bind fun x8 =>
 (util_engine_ask F 7 (TReq.mk 15 0 0 0 0 0 x8.1 0 [] [] [] []) a0 a1 a2 a3).bind fun x9 =>
 some (x9.1, x9.2.1, x9.2.2.1, x9.2.2.2.1, x9.2.2.2.2.1, x9.2.2.2.2.2)))
 (cond (a0.fName == ([115, 101, 113] : List UInt8))
 (none)
 (cond (a0.fName == ([101, 110, 118] : List UInt8))
 (none)
 ((util_engine_start F a0 a1 a2 a3).bind fun x10 =>
 some (x10.1, x10.2.1, x10.2.2.1, x10.2.2.2.1, x10.2.2.2.2.1, x10.2.2.2.2.2))))))))))))
def util_engine_begin_s : Shp := ⟨33, [.one (.ptr 0 0)], [(bt0)], [(3, 1)], ⟨.tup [.dat (.ext 3), .dat .bool], [some (bt0)], [none], []⟩, none, []⟩
def util_engine_begin_p : Plan := .seq [] none (.leaf) (.seq [] none (.leaf) (.seq [] none (.seq [] none (.region [(11, ⟨[(26, .one (.dat .bool))], [none, none], [none], []⟩, false)]) (.leaf)) (.seq [] none (.seq [] none (.leaf) (.seq [] none (.leaf) (.cond (.leaf) (.seq [] none (.leaf) (.cond (.leaf) (.seq [] none (.leaf) (.cond (.leaf) (.seq [] none (.leaf) (.cond (.leaf) (.seq [] none (.leaf) (.cond (.leaf) (.seq [] (some (⟨[(89, .one (.dat .bool))], [none, none], [none], []⟩, false)) (.leaf) (.leaf))))))))))))) (.leaf))))
def util_engine_begin_c (F : Nat) : Ctr E := ⟨util_engine_begin_s, fun (x : TUtil × Twords × TAinti648 × (List Int)) => util_engine_begin F x.1 x.2.1 x.2.2.1 x.2.2.2⟩
theorem util_engine_begin_ok (F : Nat) : (util_engine_begin_c F).Ok Tryz.prog := Ctr.ok_of (X := ⟨Tryz.prog, tyT, [util_engine_fits_c F, util_engine_usage_c F, util_engine_exit_c F, absurd55_c F, absurd56_c F, absurd57_c F, absurd58_c F, absurd59_c F, util_engine_write_c F, chars_Digits_c F, util_engine_ask_c F, absurd60_c F, absurd61_c F, util_engine_start_c F], [], none⟩) (F := F) ⟨E_ok, okC (util_engine_fits_ok F) (okC (util_engine_usage_ok F) (okC (util_engine_exit_ok F) (okC (absurd55_ok F) (okC (absurd56_ok F) (okC (absurd57_ok F) (okC (absurd58_ok F) (okC (absurd59_ok F) (okC (util_engine_write_ok F) (okC (chars_Digits_ok F) (okC (util_engine_ask_ok F) (okC (absurd60_ok F) (okC (absurd61_ok F) (okC (util_engine_start_ok F) (okN)))))))))))))), mixed, goN, rvN⟩ (pl := util_engine_begin_p) Tryz.func33 (by kernel_rfl) (fun x => by kernel_rfl)
/- (*jobshell/util.engine).written -/
def util_engine_written (F : Nat)  (a0 : TAns) (a1 : TUtil) (a2 : Twords) (a3 : TAinti648) (a4 : List Int) : Option (TUtil × Twords × TAinti648 × (List Int)) :=
 jj (σ := TUtil × Twords × TAinti648 × (List Int)) (R := TUtil × Twords × TAinti648 × (List Int)) ((cond (a0.fErr != 0)
 (some (a3.2.1 == 1))
 (some false) : Option Bool).bind fun x2 =>
 cond x2
 ((util_engine_exit F 1 ({ a1 with fOut := [] }) a2 a3 a4).bind fun x3 =>
 some (.inr (x3.1, x3.2.1, x3.2.2.1, x3.2.2.2)))
 (cond (a0.fErr != 0)
 ((cond (a3.2.1 != 2)
 (some (a1, a2, (a3.1, (a3.2.1, (1, a3.2.2.2))), a4))
 (some (a1, a2, a3, a4)) : Option (TUtil × Twords × TAinti648 × (List Int))).bind fun x4 =>
 some (.inl ({ x4.1 with fOut := [] }, x4.2.1, x4.2.2.1, x4.2.2.2)))
 (cond (decide (a0.fN < (a1.fOut.length : Int)))
 (rq ((decide (0 ≤ cond (decide (a0.fN < 0)) 0 a0.fN)) && ((decide (cond (decide (a0.fN < 0)) 0 a0.fN ≤ (a1.fOut.length : Int))) && (decide ((a1.fOut.length : Int) ≤ (a1.fOut.length : Int))))) (some (.inr ({ a1 with fState := 1, fOut := sl a1.fOut (cond (decide (a0.fN < 0)) 0 a0.fN) (a1.fOut.length : Int) }, a2, a3, a4))))
 (some (.inl (a1, a2, a3, a4)))))) fun x1 =>
 some ({ x1.1 with fState := x1.2.2.1.1, fOut := [] }, x1.2.1, x1.2.2.1, x1.2.2.2)
def util_engine_written_s : Shp := ⟨35, [.one (.ptr 0 0), .one (.dat (.ext 1))], [(bt0)], [(3, 1)], ⟨.tup [], [some (bt0)], [none], []⟩, none, []⟩
def util_engine_written_p : Plan := .seq [] none (.leaf) (.seq [] none (.leaf) (.seq [] (some (⟨[], [some (bt0), none], [none], []⟩, true)) (.seq [] none (.region [(7, ⟨[(17, .one (.dat .bool))], [none, none], [none], []⟩, false)]) (.cond (.leaf) (.seq [] none (.leaf) (.cond (.seq [] (some (⟨[], [some (bt0), none], [none], []⟩, false)) (.leaf) (.leaf)) (.seq [] none (.draw [⟨true, 10, none⟩]) (.cond (.seq [] none (.draw [⟨true, 13, none⟩, ⟨false, 1, none⟩]) (.leaf)) (.leaf))))))) (.leaf)))
def util_engine_written_c (F : Nat) : Ctr E := ⟨util_engine_written_s, fun (x : TAns × TUtil × Twords × TAinti648 × (List Int)) => util_engine_written F x.1 x.2.1 x.2.2.1 x.2.2.2.1 x.2.2.2.2⟩
theorem util_engine_written_ok (F : Nat) : (util_engine_written_c F).Ok Tryz.prog := Ctr.ok_of (X := ⟨Tryz.prog, tyT, [util_engine_exit_c F], [], none⟩) (F := F) ⟨E_ok, okC (util_engine_exit_ok F) (okN), mixed, goN, rvN⟩ (pl := util_engine_written_p) Tryz.func35 (by kernel_rfl) (fun x => by kernel_rfl)
/- jobshell/util.reason -/
def util_reason (F : Nat)  (a0 : Int) : Option (List UInt8) :=
 cond (a0 == 8)
 (some ([110, 111, 116, 32, 102, 111, 117, 110, 100] : List UInt8))
 (cond (a0 == 17)
 (some ([105, 115, 32, 97, 32, 100, 105, 114, 101, 99, 116, 111, 114, 121] : List UInt8))
 (cond (a0 == 18)
 (some ([110, 111, 116, 32, 97, 32, 100, 105, 114, 101, 99, 116, 111, 114, 121] : List UInt8))
 (cond (a0 == 9)
 (some ([101, 120, 105, 115, 116, 115] : List UInt8))
 (cond (a0 == 19)
 (some ([110, 111, 116, 32, 101, 109, 112, 116, 121] : List UInt8))
 (cond (a0 == 23)
 (some ([110, 111, 116, 32, 112, 101, 114, 109, 105, 116, 116, 101, 100] : List UInt8))
 (cond (a0 == 3)
 (some ([116, 111, 111, 32, 108, 111, 110, 103] : List UInt8))
 (cond (a0 == 21)
 (some ([110, 111, 32, 115, 117, 99, 104, 32, 112, 114, 111, 99, 101, 115, 115] : List UInt8))
 (some ([101, 114, 114, 111, 114] : List UInt8)))))))))
def util_reason_s : Shp := ⟨105, [.one (.dat (.int .i64))], [], [], ⟨.one (.dat .str), [], [], []⟩, none, []⟩
def util_reason_p : Plan := .leaf
def util_reason_c (F : Nat) : Ctr E := ⟨util_reason_s, fun (x : Int) => util_reason F x⟩
theorem util_reason_ok (F : Nat) : (util_reason_c F).Ok Tryz.prog := Ctr.ok_of (X := ⟨Tryz.prog, tyT, [], [], none⟩) (F := F) ⟨E_ok, okN, mixed, goN, rvN⟩ (pl := util_reason_p) Tryz.func105 (by kernel_rfl) (fun x => by kernel_rfl)
/- (*jobshell/util.engine).report -/
def util_engine_report (F : Nat)  (a0 : List UInt8) (a1 : Int) (a2 : Int) (a3 : TUtil) (a4 : Twords) (a5 : TAinti648) (a6 : List Int) : Option (TUtil × Twords × TAinti648 × (List Int)) :=
 rq (decide (a3.fName.length + ([58, 32] : List UInt8).length ≤ 9223372036854775807)) (rq (decide ((a3.fName ++ ([58, 32] : List UInt8)).length + a0.length ≤ 9223372036854775807)) (rq (decide (((a3.fName ++ ([58, 32] : List UInt8)) ++ a0).length + ([58, 32] : List UInt8).length ≤ 9223372036854775807)) ((util_reason F a1).bind fun x1 =>
 rq (decide ((((a3.fName ++ ([58, 32] : List UInt8)) ++ a0) ++ ([58, 32] : List UInt8)).length + x1.length ≤ 9223372036854775807)) (rq (decide (((((a3.fName ++ ([58, 32] : List UInt8)) ++ a0) ++ ([58, 32] : List UInt8)) ++ x1).length + ([10] : List UInt8).length ≤ 9223372036854775807)) ((util_engine_write F 2 (((((a3.fName ++ ([58, 32] : List UInt8)) ++ a0) ++ ([58, 32] : List UInt8)) ++ x1) ++ ([10] : List UInt8)) a2 a3 a4 a5 a6).bind fun x2 =>
 some (x2.1, x2.2.1, x2.2.2.1, x2.2.2.2))))))
def util_engine_report_s : Shp := ⟨65, [.one (.ptr 0 0), .one (.dat .str), .one (.dat (.int .i64)), .one (.dat (.int .i64))], [(bt0)], [(3, 1)], ⟨.tup [], [some (bt0)], [none], []⟩, none, []⟩
def util_engine_report_p : Plan := .drawP [0] [15] [⟨[(0, true), (1, true), (2, true), (3, true), (4, true), (5, true), (6, true), (7, true), (8, true), (9, true), (10, true), (14, true), (11, false), (12, false), (13, false), (15, false)], none⟩]
def util_engine_report_c (F : Nat) : Ctr E := ⟨util_engine_report_s, fun (x : (List UInt8) × Int × Int × TUtil × Twords × TAinti648 × (List Int)) => util_engine_report F x.1 x.2.1 x.2.2.1 x.2.2.2.1 x.2.2.2.2.1 x.2.2.2.2.2.1 x.2.2.2.2.2.2⟩
theorem util_engine_report_ok (F : Nat) : (util_engine_report_c F).Ok Tryz.prog := Ctr.ok_of (X := ⟨Tryz.prog, tyT, [util_reason_c F, util_engine_write_c F], [], none⟩) (F := F) ⟨E_ok, okC (util_reason_ok F) (okC (util_engine_write_ok F) (okN)), mixed, goN, rvN⟩ (pl := util_engine_report_p) Tryz.func65 (by kernel_rfl) (fun x => by kernel_rfl)
/- (*jobshell/util.engine).fail -/
def util_engine_fail (F : Nat)  (a0 : List UInt8) (a1 : Int) (a2 : Int) (a3 : TUtil) (a4 : Twords) (a5 : TAinti648) (a6 : List Int) : Option (TUtil × Twords × TAinti648 × (List Int)) :=
 (util_engine_report F a0 a1 a2 a3 a4 (a5.1, (a5.2.1, (1, a5.2.2.2))) a6).bind fun x1 =>
 some (x1.1, x1.2.1, x1.2.2.1, x1.2.2.2)
def util_engine_fail_s : Shp := ⟨63, [.one (.ptr 0 0), .one (.dat .str), .one (.dat (.int .i64)), .one (.dat (.int .i64))], [(bt0)], [(3, 1)], ⟨.tup [], [some (bt0)], [none], []⟩, none, []⟩
def util_engine_fail_p : Plan := .leaf
def util_engine_fail_c (F : Nat) : Ctr E := ⟨util_engine_fail_s, fun (x : (List UInt8) × Int × Int × TUtil × Twords × TAinti648 × (List Int)) => util_engine_fail F x.1 x.2.1 x.2.2.1 x.2.2.2.1 x.2.2.2.2.1 x.2.2.2.2.2.1 x.2.2.2.2.2.2⟩
theorem util_engine_fail_ok (F : Nat) : (util_engine_fail_c F).Ok Tryz.prog := Ctr.ok_of (X := ⟨Tryz.prog, tyT, [util_engine_report_c F], [], none⟩) (F := F) ⟨E_ok, okC (util_engine_report_ok F) (okN), mixed, goN, rvN⟩ (pl := util_engine_fail_p) Tryz.func63 (by kernel_rfl) (fun x => by kernel_rfl)
/- (*jobshell/util.engine).result -/
def util_engine_result (F : Nat)  (a0 : List UInt8) (a1 : Int) (a2 : TUtil) (a3 : Twords) (a4 : TAinti648) (a5 : List Int) : Option (TUtil × Twords × TAinti648 × (List Int)) :=
 cond (a1 != 0)
 ((util_engine_fail F a0 a1 3 ({ a2 with fState := 3 }) a3 a4 a5).bind fun x1 =>
 some (x1.1, x1.2.1, x1.2.2.1, x1.2.2.2))
 (some ({ a2 with fState := 3 }, a3, a4, a5))
def util_engine_result_s : Shp := ⟨37, [.one (.ptr 0 0), .one (.dat .str), .one (.dat (.int .i64))], [(bt0)], [(3, 1)], ⟨.tup [], [some (bt0)], [none], []⟩, none, []⟩
def util_engine_result_p : Plan := .leaf
def util_engine_result_c (F : Nat) : Ctr E := ⟨util_engine_result_s, fun (x : (List UInt8) × Int × TUtil × Twords × TAinti648 × (List Int)) => util_engine_result F x.1 x.2.1 x.2.2.1 x.2.2.2.1 x.2.2.2.2.1 x.2.2.2.2.2⟩
theorem util_engine_result_ok (F : Nat) : (util_engine_result_c F).Ok Tryz.prog := Ctr.ok_of (X := ⟨Tryz.prog, tyT, [util_engine_fail_c F], [], none⟩) (F := F) ⟨E_ok, okC (util_engine_fail_ok F) (okN), mixed, goN, rvN⟩ (pl := util_engine_result_p) Tryz.func37 (by kernel_rfl) (fun x => by kernel_rfl)
/- (*jobshell/util.engine).inputs -/
def util_engine_inputs (F : Nat)  (a0 : TUtil) (a1 : Twords) (a2 : TAinti648) (a3 : List Int) : Option (List (List UInt8)) :=
 (cond (a0.fName == ([116, 101, 101] : List UInt8))
 (some [])
 (cond (a0.fName == ([103, 114, 101, 112] : List UInt8))
 (rq ((decide (0 ≤ cond (decide (1 < (a1.foperands.length : Int))) 1 (a1.foperands.length : Int))) && ((decide (cond (decide (1 < (a1.foperands.length : Int))) 1 (a1.foperands.length : Int) ≤ (a1.foperands.length : Int))) && (decide ((a1.foperands.length : Int) ≤ (a1.foperands.length : Int))))) (some (sl a1.foperands (cond (decide (1 < (a1.foperands.length : Int))) 1 (a1.foperands.length : Int)) (a1.foperands.length : Int))))
 (some a1.foperands)) : Option (List (List UInt8))).bind fun x1 =>
 cond ((x1.length : Int) == 0)
 (some ([([45] : List UInt8)] : List (List UInt8)))
 (some x1)
def util_engine_inputs_s : Shp := ⟨66, [.one (.ptr 0 0)], [(bt0)], [(3, 1)], ⟨.one (.dat (.lst .str)), [none], [none], []⟩, none, []⟩
def util_engine_inputs_p : Plan := .seq [] none (.leaf) (.seq [] none (.leaf) (.seq [] (some (⟨[(3, .one (.dat (.lst .str)))], [none], [none], []⟩, false)) (.leaf) (.leaf)))
def util_engine_inputs_c (F : Nat) : Ctr E := ⟨util_engine_inputs_s, fun (x : TUtil × Twords × TAinti648 × (List Int)) => util_engine_inputs F x.1 x.2.1 x.2.2.1 x.2.2.2⟩
theorem util_engine_inputs_ok (F : Nat) : (util_engine_inputs_c F).Ok Tryz.prog := Ctr.ok_of (X := ⟨Tryz.prog, tyT, [], [], none⟩) (F := F) ⟨E_ok, okN, mixed, goN, rvN⟩ (pl := util_engine_inputs_p) Tryz.func66 (by kernel_rfl) (fun x => by kernel_rfl)
/- jobshell/util.lines -/
def util_lines (F : Nat)  (a0 : List UInt8) : Option (List (List UInt8)) :=
 (splitF F a0 ([10] : List UInt8)).bind fun x1 =>
 rq ((decide (0 ≤ w64 ((x1.length : Int) - 1))) && (decide (w64 ((x1.length : Int) - 1) < (x1.length : Int)))) (cond ((x1.getD (Int.toNat (w64 ((x1.length : Int) - 1))) []) == [])
 (rq ((decide (0 ≤ w64 ((x1.length : Int) - 1))) && (decide (w64 ((x1.length : Int) - 1) ≤ (x1.length : Int)))) (some (x1.take (Int.toNat (w64 ((x1.length : Int) - 1))))))
 (some x1))
def util_lines_s : Shp := ⟨106, [.one (.dat .str)], [], [], ⟨.one (.gso 0), [], [some (9, 1)], [(0, .str)]⟩, none, []⟩
def util_lines_p : Plan := .leaf
def util_lines_c (F : Nat) : Ctr E := ⟨util_lines_s, fun (x : List UInt8) => util_lines F x⟩
theorem util_lines_ok (F : Nat) : (util_lines_c F).Ok Tryz.prog := Ctr.ok_of (X := ⟨Tryz.prog, tyT, [stringsSplit_c F], [], none⟩) (F := F) ⟨E_ok, okC (stringsSplit_ok F) (okN), mixed, goN, rvN⟩ (pl := util_lines_p) Tryz.func106 (by kernel_rfl) (fun x => by kernel_rfl)
/- (*strings.Builder).copyCheck -/
def strings_Builder_copyCheck (F : Nat)  (a0 : Bool) (a1 : List Int) : Option (Bool × (List Int)) :=
 cond (!a0)
 ((neF F).bind fun _ =>
 some (true, a1))
 (cond (!a0)
 (none)
 (some (a0, a1)))
def strings_Builder_copyCheck_s : Shp := ⟨129, [.one (.ptr 0 0)], [(bt1)], [(5, 1)], ⟨.tup [], [some (bt1)], [none], []⟩, none, []⟩
def strings_Builder_copyCheck_p : Plan := .leaf
def strings_Builder_copyCheck_c (F : Nat) : Ctr E := ⟨strings_Builder_copyCheck_s, fun (x : Bool × (List Int)) => strings_Builder_copyCheck F x.1 x.2⟩
theorem strings_Builder_copyCheck_ok (F : Nat) : (strings_Builder_copyCheck_c F).Ok Tryz.prog := Ctr.ok_of (X := ⟨Tryz.prog, tyT, [noEscape_c F], [], none⟩) (F := F) ⟨E_ok, okC (noEscape_ok F) (okN), mixed, goN, rvN⟩ (pl := strings_Builder_copyCheck_p) Tryz.func129 (by kernel_rfl) (fun x => by kernel_rfl)
/- (*strings.Builder).WriteString -/
def strings_Builder_WriteString (F : Nat)  (a0 : List UInt8) (a1 : Bool) (a2 : List Int) : Option (Int × Bool × (List Int)) :=
 (strings_Builder_copyCheck F a1 a2).bind fun x1 =>
 rq ((decide (x1.2.length + (toInts a0).length ≤ 9223372036854775807)) && (decide ((x1.2.length + (toInts a0).length) * 1 ≤ 140737488355328))) (some ((a0.length : Int), x1.1, x1.2 ++ (toInts a0)))
def strings_Builder_WriteString_s : Shp := ⟨96, [.one (.ptr 0 0), .one (.dat .str)], [(bt1)], [(5, 1)], ⟨.tup [.dat (.int .i64), .nil .iface], [some (bt1)], [some (5, 1)], []⟩, none, []⟩
def strings_Builder_WriteString_p : Plan := .leaf
def strings_Builder_WriteString_c (F : Nat) : Ctr E := ⟨strings_Builder_WriteString_s, fun (x : (List UInt8) × Bool × (List Int)) => strings_Builder_WriteString F x.1 x.2.1 x.2.2⟩
theorem strings_Builder_WriteString_ok (F : Nat) : (strings_Builder_WriteString_c F).Ok Tryz.prog := Ctr.ok_of (X := ⟨Tryz.prog, tyT, [strings_Builder_copyCheck_c F], [], none⟩) (F := F) ⟨E_ok, okC (strings_Builder_copyCheck_ok F) (okN), mixed, goN, rvN⟩ (pl := strings_Builder_WriteString_p) Tryz.func96 (by kernel_rfl) (fun x => by kernel_rfl)
/- (*strings.Builder).WriteByte -/
def strings_Builder_WriteByte (F : Nat)  (a0 : Int) (a1 : Bool) (a2 : List Int) : Option (Bool × (List Int)) :=
 (strings_Builder_copyCheck F a1 a2).bind fun x1 =>
 rq ((decide (x1.2.length + ([a0] : List Int).length ≤ 9223372036854775807)) && (decide ((x1.2.length + ([a0] : List Int).length) * 1 ≤ 140737488355328))) (some (x1.1, x1.2 ++ ([a0] : List Int)))
def strings_Builder_WriteByte_s : Shp := ⟨132, [.one (.ptr 0 0), .one (.dat (.int .u8))], [(bt1)], [(5, 1)], ⟨.one (.nil .iface), [some (bt1)], [some (5, 1)], []⟩, none, []⟩
def strings_Builder_WriteByte_p : Plan := .leaf
def strings_Builder_WriteByte_c (F : Nat) : Ctr E := ⟨strings_Builder_WriteByte_s, fun (x : Int × Bool × (List Int)) => strings_Builder_WriteByte F x.1 x.2.1 x.2.2⟩
theorem strings_Builder_WriteByte_ok (F : Nat) : (strings_Builder_WriteByte_c F).Ok Tryz.prog := Ctr.ok_of (X := ⟨Tryz.prog, tyT, [strings_Builder_copyCheck_c F], [], none⟩) (F := F) ⟨E_ok, okC (strings_Builder_copyCheck_ok F) (okN), mixed, goN, rvN⟩ (pl := strings_Builder_WriteByte_p) Tryz.func132 (by kernel_rfl) (fun x => by kernel_rfl)
/- (*strings.Builder).String -/
def strings_Builder_String (F : Nat)  (a0 : Bool) (a1 : List Int) : Option (List UInt8) :=
 rq ((decide ((a1.length : Int) = (a1.length : Int))) && ((byteOk a1) && (decide (a1.length ≤ 9223372036854775807)))) (some (toBytes a1))
def strings_Builder_String_s : Shp := ⟨97, [.one (.ptr 0 0)], [(bt1)], [(5, 1)], ⟨.one (.dat .str), [none], [some (5, 1)], []⟩, none, []⟩
def strings_Builder_String_p : Plan := .seq [] none (.leaf) (.seq [] none (.draw [⟨true, 10, none⟩, ⟨false, 2, none⟩]) (.leaf))
def strings_Builder_String_c (F : Nat) : Ctr E := ⟨strings_Builder_String_s, fun (x : Bool × (List Int)) => strings_Builder_String F x.1 x.2⟩
theorem strings_Builder_String_ok (F : Nat) : (strings_Builder_String_c F).Ok Tryz.prog := Ctr.ok_of (X := ⟨Tryz.prog, tyT, [], [], none⟩) (F := F) ⟨E_ok, okN, mixed, goN, rvN⟩ (pl := strings_Builder_String_p) Tryz.func97 (by kernel_rfl) (fun x => by kernel_rfl)
/- jobshell/util.joined -/
def util_joined (F : Nat)  (a0 : List (List UInt8)) : Option (List UInt8) :=
 loopF (σ := Int × Bool × (List Int)) (R := List UInt8) (fun rc2 x1 =>
 cond (decide (x1.1 < (a0.length : Int)))
 (rq ((decide (0 ≤ x1.1)) && (decide (x1.1 < (a0.length : Int)))) ((strings_Builder_WriteString F (a0.getD (Int.toNat x1.1) []) x1.2.1 x1.2.2).bind fun x3 =>
 (strings_Builder_WriteByte F 10 x3.2.1 x3.2.2).bind fun x4 =>
 rc2 (w64 (x1.1 + 1), x4.1, x4.2)))
 ((strings_Builder_String F x1.2.1 x1.2.2).bind fun x5 =>
 some x5)) F (0, false, ([] : List Int))
def util_joined_s : Shp := ⟨99, [.one (.dat (.lst .str))], [], [], ⟨.one (.dat .str), [], [], []⟩, none, []⟩
def util_joined_p : Plan := .seq [] none (.leaf) (.seq [] none (.leaf) (.seq [.cell 0 1 5 (.int .u8)] none (.seq [] none (.leaf) (.loop [] ⟨[(8, .one (.dat (.int .i64)))], [some (bt1)], [some (5, 1)], []⟩ (.leaf))) (.leaf)))
def util_joined_c (F : Nat) : Ctr E := ⟨util_joined_s, fun (x : List (List UInt8)) => util_joined F x⟩
theorem util_joined_ok (F : Nat) : (util_joined_c F).Ok Tryz.prog := Ctr.ok_of (X := ⟨Tryz.prog, tyT, [strings_Builder_WriteString_c F, strings_Builder_WriteByte_c F, strings_Builder_String_c F], [], none⟩) (F := F) ⟨E_ok, okC (strings_Builder_WriteString_ok F) (okC (strings_Builder_WriteByte_ok F) (okC (strings_Builder_String_ok F) (okN))), mixed, goN, rvN⟩ (pl := util_joined_p) Tryz.func99 (by kernel_rfl) (fun x => by kernel_rfl)
/- strings.trimLeftByte -/
def strings_trimLeftByte (F : Nat)  (a0 : List UInt8) (a1 : Int) : Option (List UInt8) :=
 loopF (σ := List UInt8) (R := List UInt8) (fun rc2 x1 =>
 (cond (decide (0 < (x1.length : Int)))
 (rq (decide (0 < (x1.length : Int))) (some (((x1.getD 0 0).toNat : Int) == a1)))
 (some false) : Option Bool).bind fun x3 =>
 cond x3
 (rq ((decide (1 ≤ (x1.length : Int))) && (decide ((x1.length : Int) ≤ (x1.length : Int)))) (rc2 (sl x1 1 (x1.length : Int))))
 (some x1)) F a0
def strings_trimLeftByte_s : Shp := ⟨203, [.one (.dat .str), .one (.dat (.int .u8))], [], [], ⟨.one (.dat .str), [], [], []⟩, none, []⟩
def strings_trimLeftByte_p : Plan := .seq [] none (.leaf) (.seq [] none (.loop [] ⟨[(0, .one (.dat .str))], [], [], []⟩ (.seq [] none (.seq [] none (.region [(9, ⟨[(13, .one (.dat .bool))], [], [], []⟩, false)]) (.leaf)) (.leaf))) (.leaf))
def strings_trimLeftByte_c (F : Nat) : Ctr E := ⟨strings_trimLeftByte_s, fun (x : (List UInt8) × Int) => strings_trimLeftByte F x.1 x.2⟩
theorem strings_trimLeftByte_ok (F : Nat) : (strings_trimLeftByte_c F).Ok Tryz.prog := Ctr.ok_of (X := ⟨Tryz.prog, tyT, [], [], none⟩) (F := F) ⟨E_ok, okN, mixed, goN, rvN⟩ (pl := strings_trimLeftByte_p) Tryz.func203 (by kernel_rfl) (fun x => by kernel_rfl)
/- strings.TrimLeft -/
def strings_TrimLeft (F : Nat)  (a0 : List UInt8) (a1 : List UInt8) : Option (List UInt8) :=
 (cond (a0 == [])
 (some true)
 (some (a1 == [])) : Option Bool).bind fun x1 =>
 cond x1
 (some a0)
 ((cond ((a1.length : Int) == 1)
 (rq (decide (0 < (a1.length : Int))) (some (decide (((a1.getD 0 0).toNat : Int) < 128))))
 (some false) : Option Bool).bind fun x2 =>
 cond x2
 (rq (decide (0 < (a1.length : Int))) ((strings_trimLeftByte F a0 ((a1.getD 0 0).toNat : Int)).bind fun x3 =>
 some x3))
 (none))
def strings_TrimLeft_s : Shp := ⟨171, [.one (.dat .str), .one (.dat .str)], [], [], ⟨.one (.dat .str), [], [], []⟩, none, []⟩
def strings_TrimLeft_p : Plan := .seq [] none (.leaf) (.seq [] none (.seq [] none (.region [(6, ⟨[(12, .one (.dat .bool))], [], [], []⟩, false)]) (.leaf)) (.seq [] none (.seq [] none (.region [(8, ⟨[(21, .one (.dat .bool))], [], [], []⟩, false)]) (.leaf)) (.leaf)))
def strings_TrimLeft_c (F : Nat) : Ctr E := ⟨strings_TrimLeft_s, fun (x : (List UInt8) × (List UInt8)) => strings_TrimLeft F x.1 x.2⟩
theorem strings_TrimLeft_ok (F : Nat) : (strings_TrimLeft_c F).Ok Tryz.prog := Ctr.ok_of (X := ⟨Tryz.prog, tyT, [strings_trimLeftByte_c F, absurd204_c F], [], none⟩) (F := F) ⟨E_ok, okC (strings_trimLeftByte_ok F) (okC (absurd204_ok F) (okN)), mixed, goN, rvN⟩ (pl := strings_TrimLeft_p) Tryz.func171 (by kernel_rfl) (fun x => by kernel_rfl)
/- internal/stringslite.HasPrefix -/
def stringslite_HasPrefix (F : Nat)  (a0 : List UInt8) (a1 : List UInt8) : Option Bool :=
 (cond (decide ((a1.length : Int) ≤ (a0.length : Int)))
 (rq ((decide (0 ≤ (a1.length : Int))) && (decide ((a1.length : Int) ≤ (a0.length : Int)))) (some ((sl a0 0 (a1.length : Int)) == a1)))
 (some false) : Option Bool).bind fun x1 =>
 some x1
def stringslite_HasPrefix_s : Shp := ⟨135, [.one (.dat .str), .one (.dat .str)], [], [], ⟨.one (.dat .bool), [], [], []⟩, none, []⟩
def stringslite_HasPrefix_p : Plan := .seq [] none (.leaf) (.seq [] none (.region [(13, ⟨[(17, .one (.dat .bool))], [], [], []⟩, false)]) (.leaf))
def stringslite_HasPrefix_c (F : Nat) : Ctr E := ⟨stringslite_HasPrefix_s, fun (x : (List UInt8) × (List UInt8)) => stringslite_HasPrefix F x.1 x.2⟩
theorem stringslite_HasPrefix_ok (F : Nat) : (stringslite_HasPrefix_c F).Ok Tryz.prog := Ctr.ok_of (X := ⟨Tryz.prog, tyT, [], [], none⟩) (F := F) ⟨E_ok, okN, mixed, goN, rvN⟩ (pl := stringslite_HasPrefix_p) Tryz.func135 (by kernel_rfl) (fun x => by kernel_rfl)
/- internal/stringslite.CutPrefix -/
def stringslite_CutPrefix (F : Nat)  (a0 : List UInt8) (a1 : List UInt8) : Option ((List UInt8) × Bool) :=
 (stringslite_HasPrefix F a0 a1).bind fun x1 =>
 cond (!x1)
 (some (a0, false))
 (rq ((decide (0 ≤ (a1.length : Int))) && ((decide ((a1.length : Int) ≤ (a0.length : Int))) && (decide ((a0.length : Int) ≤ (a0.length : Int))))) (some (sl a0 (a1.length : Int) (a0.length : Int), true)))
def stringslite_CutPrefix_s : Shp := ⟨127, [.one (.dat .str), .one (.dat .str)], [], [], ⟨.tup [.dat .str, .dat .bool], [], [], []⟩, none, []⟩
def stringslite_CutPrefix_p : Plan := .leaf
def stringslite_CutPrefix_c (F : Nat) : Ctr E := ⟨stringslite_CutPrefix_s, fun (x : (List UInt8) × (List UInt8)) => stringslite_CutPrefix F x.1 x.2⟩
theorem stringslite_CutPrefix_ok (F : Nat) : (stringslite_CutPrefix_c F).Ok Tryz.prog := Ctr.ok_of (X := ⟨Tryz.prog, tyT, [stringslite_HasPrefix_c F], [], none⟩) (F := F) ⟨E_ok, okC (stringslite_HasPrefix_ok F) (okN), mixed, goN, rvN⟩ (pl := stringslite_CutPrefix_p) Tryz.func127 (by kernel_rfl) (fun x => by kernel_rfl)
/- strings.CutPrefix -/
def strings_CutPrefix (F : Nat)  (a0 : List UInt8) (a1 : List UInt8) : Option ((List UInt8) × Bool) :=
 (stringslite_CutPrefix F a0 a1).bind fun x1 =>
 some (x1.1, x1.2)
def strings_CutPrefix_s : Shp := ⟨93, [.one (.dat .str), .one (.dat .str)], [], [], ⟨.tup [.dat .str, .dat .bool], [], [], []⟩, none, []⟩
def strings_CutPrefix_p : Plan := .leaf
def strings_CutPrefix_c (F : Nat) : Ctr E := ⟨strings_CutPrefix_s, fun (x : (List UInt8) × (List UInt8)) => strings_CutPrefix F x.1 x.2⟩
theorem strings_CutPrefix_ok (F : Nat) : (strings_CutPrefix_c F).Ok Tryz.prog := Ctr.ok_of (X := ⟨Tryz.prog, tyT, [stringslite_CutPrefix_c F], [], none⟩) (F := F) ⟨E_ok, okC (stringslite_CutPrefix_ok F) (okN), mixed, goN, rvN⟩ (pl := strings_CutPrefix_p) Tryz.func93 (by kernel_rfl) (fun x => by kernel_rfl)
/- jobshell/util.value -/
def util_value (F : Nat)  (a0 : List UInt8) : Option Int :=
 (strings_TrimLeft F a0 ([32, 9] : List UInt8)).bind fun x1 =>
 (strings_CutPrefix F x1 ([45] : List UInt8)).bind fun x2 =>
 loopF (σ := Int × Int) (R := Int) (fun rc4 x3 =>
 (cond (decide (x3.2 < (x2.1.length : Int)))
 (some (decide (x3.2 < 9)))
 (some false) : Option Bool).bind fun x5 =>
 (cond x5
 (rq ((decide (0 ≤ x3.2)) && (decide (x3.2 < (x2.1.length : Int)))) (some (decide (48 ≤ ((x2.1.getD (Int.toNat x3.2) 0).toNat : Int)))))
 (some false) : Option Bool).bind fun x6 =>
 (cond x6
 (rq ((decide (0 ≤ x3.2)) && (decide (x3.2 < (x2.1.length : Int)))) (some (decide (((x2.1.getD (Int.toNat x3.2) 0).toNat : Int) ≤ 57))))
 (some false) : Option Bool).bind fun x7 =>
 cond x7
 (rq ((decide (0 ≤ x3.2)) && (decide (x3.2 < (x2.1.length : Int)))) (rc4 (w64 ((w64 (x3.1 * 10)) + (w64 (IntKind.wrap .u8 (((x2.1.getD (Int.toNat x3.2) 0).toNat : Int) - 48)))), w64 (x3.2 + 1))))
 (cond x2.2
 (some (w64 (0 - x3.1)))
 (some x3.1))) F (0, 0)
def util_value_s : Shp := ⟨143, [.one (.dat .str)], [], [], ⟨.one (.dat (.int .i64)), [], [], []⟩, none, []⟩
def util_value_p : Plan := .seq [] none (.leaf) (.seq [] none (.leaf) (.seq [] none (.leaf) (.seq [] none (.seq [] none (.leaf) (.loop [] ⟨[(4, .one (.dat (.int .i64))), (5, .one (.dat (.int .i64)))], [], [], []⟩ (.seq [] none (.seq [] none (.region [(8, ⟨[(19, .one (.dat .bool))], [], [], []⟩, false), (6, ⟨[(25, .one (.dat .bool))], [], [], []⟩, false), (6, ⟨[(31, .one (.dat .bool))], [], [], []⟩, false)]) (.leaf)) (.leaf)))) (.leaf))))
def util_value_c (F : Nat) : Ctr E := ⟨util_value_s, fun (x : List UInt8) => util_value F x⟩
theorem util_value_ok (F : Nat) : (util_value_c F).Ok Tryz.prog := Ctr.ok_of (X := ⟨Tryz.prog, tyT, [strings_TrimLeft_c F, strings_CutPrefix_c F], [], none⟩) (F := F) ⟨E_ok, okC (strings_TrimLeft_ok F) (okC (strings_CutPrefix_ok F) (okN)), mixed, goN, rvN⟩ (pl := util_value_p) Tryz.func143 (by kernel_rfl) (fun x => by kernel_rfl)
/- cmp.isNaN[int] -/
def cmp_isNaN (F : Nat)  (a0 : Int) : Option Bool :=
 some (a0 != a0)
def cmp_isNaN_s : Shp := ⟨170, [.one (.dat (.int .i64))], [], [], ⟨.one (.dat .bool), [], [], []⟩, none, []⟩
def cmp_isNaN_p : Plan := .leaf
def cmp_isNaN_c (F : Nat) : Ctr E := ⟨cmp_isNaN_s, fun (x : Int) => cmp_isNaN F x⟩
theorem cmp_isNaN_ok (F : Nat) : (cmp_isNaN_c F).Ok Tryz.prog := Ctr.ok_of (X := ⟨Tryz.prog, tyT, [], [], none⟩) (F := F) ⟨E_ok, okN, mixed, goN, rvN⟩ (pl := cmp_isNaN_p) Tryz.func170 (by kernel_rfl) (fun x => by kernel_rfl)
/- cmp.Compare[int] -/
def cmp_Compare (F : Nat)  (a0 : Int) (a1 : Int) : Option Int :=
 (cmp_isNaN F a0).bind fun x1 =>
 (cmp_isNaN F a1).bind fun x2 =>
 cond x1
 (cond x2
 (some 0)
 (some (-1)))
 (cond x2
 (some 1)
 (cond (decide (a0 < a1))
 (some (-1))
 (cond (decide (a1 < a0))
 (some 1)
 (some 0))))
def cmp_Compare_s : Shp := ⟨142, [.one (.dat (.int .i64)), .one (.dat (.int .i64))], [], [], ⟨.one (.dat (.int .i64)), [], [], []⟩, none, []⟩
def cmp_Compare_p : Plan := .leaf
def cmp_Compare_c (F : Nat) : Ctr E := ⟨cmp_Compare_s, fun (x : Int × Int) => cmp_Compare F x.1 x.2⟩
theorem cmp_Compare_ok (F : Nat) : (cmp_Compare_c F).Ok Tryz.prog := Ctr.ok_of (X := ⟨Tryz.prog, tyT, [cmp_isNaN_c F], [], none⟩) (F := F) ⟨E_ok, okC (cmp_isNaN_ok F) (okN), mixed, goN, rvN⟩ (pl := cmp_Compare_p) Tryz.func142 (by kernel_rfl) (fun x => by kernel_rfl)
/- (*jobshell/util.engine).sorted$1 -/
def util_engine_sorted_1 (F : Nat)  (a0 : List UInt8) (a1 : List UInt8) : Option Int :=
 (util_value F a0).bind fun x1 =>
 (util_value F a1).bind fun x2 =>
 (cmp_Compare F x1 x2).bind fun x3 =>
 some x3
def util_engine_sorted_1_s : Shp := ⟨141, [.one (.dat .str), .one (.dat .str)], [], [], ⟨.one (.dat (.int .i64)), [], [], []⟩, none, []⟩
def util_engine_sorted_1_p : Plan := .leaf
def util_engine_sorted_1_c (F : Nat) : Ctr E := ⟨util_engine_sorted_1_s, fun (x : (List UInt8) × (List UInt8)) => util_engine_sorted_1 F x.1 x.2⟩
theorem util_engine_sorted_1_ok (F : Nat) : (util_engine_sorted_1_c F).Ok Tryz.prog := Ctr.ok_of (X := ⟨Tryz.prog, tyT, [util_value_c F, cmp_Compare_c F], [], none⟩) (F := F) ⟨E_ok, okC (util_value_ok F) (okC (cmp_Compare_ok F) (okN)), mixed, goN, rvN⟩ (pl := util_engine_sorted_1_p) Tryz.func141 (by kernel_rfl) (fun x => by kernel_rfl)
/- slices.insertionSortCmpFunc[string] -/
def slices_insertionSortCmpFunc (F : Nat)  (a0 : Int) (a1 : Int) (a2 : List (List UInt8)) : Option (List (List UInt8)) :=
 loopF (σ := Int × (List (List UInt8))) (R := List (List UInt8)) (fun rc2 x1 =>
 cond (decide (x1.1 < a1))
 (loopF (σ := Int × (List (List UInt8))) (R := List (List UInt8)) (fun rc4 x3 =>
 cond (decide (a0 < x3.1))
 (rq ((decide (0 ≤ x3.1)) && (decide (x3.1 < (x3.2.length : Int)))) (rq ((decide (0 ≤ w64 (x3.1 - 1))) && (decide (w64 (x3.1 - 1) < (x3.2.length : Int)))) ((util_engine_sorted_1 F (x3.2.getD (Int.toNat x3.1) []) (x3.2.getD (Int.toNat (w64 (x3.1 - 1))) [])).bind fun x5 =>
 cond (decide (x5 < 0))
 (rq ((decide (0 ≤ w64 (x3.1 - 1))) && (decide (w64 (x3.1 - 1) < (x3.2.length : Int)))) (rq ((decide (0 ≤ x3.1)) && (decide (x3.1 < (x3.2.length : Int)))) (rq ((decide (0 ≤ x3.1)) && (decide (x3.1 < (x3.2.length : Int)))) (rq ((decide (0 ≤ w64 (x3.1 - 1))) && (decide (w64 (x3.1 - 1) < ((x3.2.set (Int.toNat x3.1) (x3.2.getD (Int.toNat (w64 (x3.1 - 1))) [])).length : Int)))) (rc4 (w64 (x3.1 - 1), (x3.2.set (Int.toNat x3.1) (x3.2.getD (Int.toNat (w64 (x3.1 - 1))) [])).set (Int.toNat (w64 (x3.1 - 1))) (x3.2.getD (Int.toNat x3.1) [])))))))
 (rc2 (w64 (x1.1 + 1), x3.2)))))
 (rc2 (w64 (x1.1 + 1), x3.2))) F (x1.1, x1.2))
 (some x1.2)) F (w64 (a0 + 1), a2)
def slices_insertionSortCmpFunc_s : Shp := ⟨201, [.one (.gso 0), .one (.dat (.int .i64)), .one (.dat (.int .i64)), .one (.func 141 [])], [], [(9, 1)], ⟨.tup [], [], [none], [(0, .str)]⟩, none, [(0, .str)]⟩
def slices_insertionSortCmpFunc_p : Plan := .seq [] none (.leaf) (.loop [] ⟨[(8, .one (.dat (.int .i64)))], [], [none], [(0, .str)]⟩ (.seq [] none (.leaf) (.seq [] none (.seq [] none (.leaf) (.loop [] ⟨[(9, .one (.dat (.int .i64)))], [], [none], [(0, .str)]⟩ (.seq [] none (.seq [] none (.draw [⟨true, 14, none⟩, ⟨false, 3, none⟩]) (.leaf)) (.seq [] none (.draw [⟨true, 15, none⟩, ⟨false, 3, none⟩]) (.leaf))))) (.leaf))))
def slices_insertionSortCmpFunc_c (F : Nat) : Ctr E := ⟨slices_insertionSortCmpFunc_s, fun (x : Int × Int × (List (List UInt8))) => slices_insertionSortCmpFunc F x.1 x.2.1 x.2.2⟩
theorem slices_insertionSortCmpFunc_ok (F : Nat) : (slices_insertionSortCmpFunc_c F).Ok Tryz.prog := Ctr.ok_of (X := ⟨Tryz.prog, tyT, [util_engine_sorted_1_c F], [], none⟩) (F := F) ⟨E_ok, okC (util_engine_sorted_1_ok F) (okN), mixed, goN, rvN⟩ (pl := slices_insertionSortCmpFunc_p) Tryz.func201 (by kernel_rfl) (fun x => by kernel_rfl)
/- slices.swapRangeCmpFunc[string] -/
def slices_swapRangeCmpFunc (F : Nat)  (a0 : Int) (a1 : Int) (a2 : Int) (a3 : List (List UInt8)) : Option (List (List UInt8)) :=
 loopF (σ := Int × (List (List UInt8))) (R := List (List UInt8)) (fun rc2 x1 =>
 cond (decide (x1.1 < a2))
 (rq ((decide (0 ≤ w64 (a1 + x1.1))) && (decide (w64 (a1 + x1.1) < (x1.2.length : Int)))) (rq ((decide (0 ≤ w64 (a0 + x1.1))) && (decide (w64 (a0 + x1.1) < (x1.2.length : Int)))) (rq ((decide (0 ≤ w64 (a0 + x1.1))) && (decide (w64 (a0 + x1.1) < (x1.2.length : Int)))) (rq ((decide (0 ≤ w64 (a1 + x1.1))) && (decide (w64 (a1 + x1.1) < ((x1.2.set (Int.toNat (w64 (a0 + x1.1))) (x1.2.getD (Int.toNat (w64 (a1 + x1.1))) [])).length : Int)))) (rc2 (w64 (x1.1 + 1), (x1.2.set (Int.toNat (w64 (a0 + x1.1))) (x1.2.getD (Int.toNat (w64 (a1 + x1.1))) [])).set (Int.toNat (w64 (a1 + x1.1))) (x1.2.getD (Int.toNat (w64 (a0 + x1.1))) [])))))))
 (some x1.2)) F (0, a3)
def slices_swapRangeCmpFunc_s : Shp := ⟨262, [.one (.gso 0), .one (.dat (.int .i64)), .one (.dat (.int .i64)), .one (.dat (.int .i64)), .one (.func 141 [])], [], [(9, 1)], ⟨.tup [], [], [none], [(0, .str)]⟩, none, [(0, .str)]⟩
def slices_swapRangeCmpFunc_p : Plan := .seq [] none (.leaf) (.loop [] ⟨[(10, .one (.dat (.int .i64)))], [], [none], [(0, .str)]⟩ (.seq [] none (.leaf) (.seq [] none (.draw [⟨true, 21, none⟩, ⟨false, 3, none⟩]) (.leaf))))
def slices_swapRangeCmpFunc_c (F : Nat) : Ctr E := ⟨slices_swapRangeCmpFunc_s, fun (x : Int × Int × Int × (List (List UInt8))) => slices_swapRangeCmpFunc F x.1 x.2.1 x.2.2.1 x.2.2.2⟩
theorem slices_swapRangeCmpFunc_ok (F : Nat) : (slices_swapRangeCmpFunc_c F).Ok Tryz.prog := Ctr.ok_of (X := ⟨Tryz.prog, tyT, [], [], none⟩) (F := F) ⟨E_ok, okN, mixed, goN, rvN⟩ (pl := slices_swapRangeCmpFunc_p) Tryz.func262 (by kernel_rfl) (fun x => by kernel_rfl)
/- slices.rotateCmpFunc[string] -/
def slices_rotateCmpFunc (F : Nat)  (a0 : Int) (a1 : Int) (a2 : Int) (a3 : List (List UInt8)) : Option (List (List UInt8)) :=
 loopF (σ := Int × Int × (List (List UInt8))) (R := List (List UInt8)) (fun rc2 x1 =>
 cond (x1.1 != x1.2.1)
 (cond (decide (x1.2.1 < x1.1))
 ((slices_swapRangeCmpFunc F (w64 (a1 - x1.1)) a1 x1.2.1 x1.2.2).bind fun x3 =>
 rc2 (w64 (x1.1 - x1.2.1), x1.2.1, x3))
 ((slices_swapRangeCmpFunc F (w64 (a1 - x1.1)) (w64 ((w64 (a1 + x1.2.1)) - x1.1)) x1.1 x1.2.2).bind fun x4 =>
 rc2 (x1.1, w64 (x1.2.1 - x1.1), x4)))
 ((slices_swapRangeCmpFunc F (w64 (a1 - x1.1)) a1 x1.1 x1.2.2).bind fun x5 =>
 some x5)) F (w64 (a1 - a0), w64 (a2 - a1), a3)
def slices_rotateCmpFunc_s : Shp := ⟨238, [.one (.gso 0), .one (.dat (.int .i64)), .one (.dat (.int .i64)), .one (.dat (.int .i64)), .one (.func 141 [])], [], [(9, 1)], ⟨.tup [], [], [none], [(0, .str)]⟩, none, [(0, .str)]⟩
def slices_rotateCmpFunc_p : Plan := .seq [] none (.leaf) (.seq [] none (.leaf) (.seq [] none (.loop [] ⟨[(10, .one (.dat (.int .i64))), (11, .one (.dat (.int .i64)))], [], [none], [(0, .str)]⟩ (.leaf)) (.leaf)))
def slices_rotateCmpFunc_c (F : Nat) : Ctr E := ⟨slices_rotateCmpFunc_s, fun (x : Int × Int × Int × (List (List UInt8))) => slices_rotateCmpFunc F x.1 x.2.1 x.2.2.1 x.2.2.2⟩
theorem slices_rotateCmpFunc_ok (F : Nat) : (slices_rotateCmpFunc_c F).Ok Tryz.prog := Ctr.ok_of (X := ⟨Tryz.prog, tyT, [slices_swapRangeCmpFunc_c F], [], none⟩) (F := F) ⟨E_ok, okC (slices_swapRangeCmpFunc_ok F) (okN), mixed, goN, rvN⟩ (pl := slices_rotateCmpFunc_p) Tryz.func238 (by kernel_rfl) (fun x => by kernel_rfl)
/- slices.symMergeCmpFunc[string] -/
def slices_symMergeCmpFunc_m (F : Nat) (r_slices_symMergeCmpFunc : Int → Int → Int → (List (List UInt8)) → Option (List (List UInt8))) (a0 : Int) (a1 : Int) (a2 : Int) (a3 : List (List UInt8)) : Option (List (List UInt8)) :=
 cond ((w64 (a1 - a0)) == 1)
 (loopF (σ := Int × Int × (List (List UInt8))) (R := List (List UInt8)) (fun rc2 x1 =>
 cond (decide (x1.1 < x1.2.1))
 (rq ((decide (0 ≤ w64 (bShr .u64 (IntKind.wrap .u64 (w64 (x1.1 + x1.2.1))) 1))) && (decide (w64 (bShr .u64 (IntKind.wrap .u64 (w64 (x1.1 + x1.2.1))) 1) < (x1.2.2.length : Int)))) (rq ((decide (0 ≤ a0)) && (decide (a0 < (x1.2.2.length : Int)))) ((util_engine_sorted_1 F (x1.2.2.getD (Int.toNat (w64 (bShr .u64 (IntKind.wrap .u64 (w64 (x1.1 + x1.2.1))) 1))) []) (x1.2.2.getD (Int.toNat a0) [])).bind fun x3 =>
 cond (decide (x3 < 0))
 (rc2 (w64 ((w64 (bShr .u64 (IntKind.wrap .u64 (w64 (x1.1 + x1.2.1))) 1)) + 1), x1.2.1, x1.2.2))
 (rc2 (x1.1, w64 (bShr .u64 (IntKind.wrap .u64 (w64 (x1.1 + x1.2.1))) 1), x1.2.2)))))
 (loopF (σ := Int × (List (List UInt8))) (R := List (List UInt8)) (fun rc5 x4 =>
 cond (decide (x4.1 < w64 (x1.1 - 1)))
 (rq ((decide (0 ≤ w64 (x4.1 + 1))) && (decide (w64 (x4.1 + 1) < (x4.2.length : Int)))) (rq ((decide (0 ≤ x4.1)) && (decide (x4.1 < (x4.2.length : Int)))) (rq ((decide (0 ≤ x4.1)) && (decide (x4.1 < (x4.2.length : Int)))) (rq ((decide (0 ≤ w64 (x4.1 + 1))) && (decide (w64 (x4.1 + 1) < ((x4.2.set (Int.toNat x4.1) (x4.2.getD (Int.toNat (w64 (x4.1 + 1))) [])).length : Int)))) (rc5 (w64 (x4.1 + 1), (x4.2.set (Int.toNat x4.1) (x4.2.getD (Int.toNat (w64 (x4.1 + 1))) [])).set (Int.toNat (w64 (x4.1 + 1))) (x4.2.getD (Int.toNat x4.1) [])))))))
 (some x4.2)) F (a0, x1.2.2))) F (a1, a2, a3))
 (cond ((w64 (a2 - a1)) == 1)
 (loopF (σ := Int × Int × (List (List UInt8))) (R := List (List UInt8)) (fun rc7 x6 =>
 cond (decide (x6.1 < x6.2.1))
 (rq ((decide (0 ≤ a1)) && (decide (a1 < (x6.2.2.length : Int)))) (rq ((decide (0 ≤ w64 (bShr .u64 (IntKind.wrap .u64 (w64 (x6.1 + x6.2.1))) 1))) && (decide (w64 (bShr .u64 (IntKind.wrap .u64 (w64 (x6.1 + x6.2.1))) 1) < (x6.2.2.length : Int)))) ((util_engine_sorted_1 F (x6.2.2.getD (Int.toNat a1) []) (x6.2.2.getD (Int.toNat (w64 (bShr .u64 (IntKind.wrap .u64 (w64 (x6.1 + x6.2.1))) 1))) [])).bind fun x8 =>
 cond (!(decide (x8 < 0)))
 (rc7 (w64 ((w64 (bShr .u64 (IntKind.wrap .u64 (w64 (x6.1 + x6.2.1))) 1)) + 1), x6.2.1, x6.2.2))
 (rc7 (x6.1, w64 (bShr .u64 (IntKind.wrap .u64 (w64 (x6.1 + x6.2.1))) 1), x6.2.2)))))
 (loopF (σ := Int × (List (List UInt8))) (R := List (List UInt8)) (fun rc10 x9 =>
 cond (decide (x6.1 < x9.1))
 (rq ((decide (0 ≤ w64 (x9.1 - 1))) && (decide (w64 (x9.1 - 1) < (x9.2.length : Int)))) (rq ((decide (0 ≤ x9.1)) && (decide (x9.1 < (x9.2.length : Int)))) (rq ((decide (0 ≤ x9.1)) && (decide (x9.1 < (x9.2.length : Int)))) (rq ((decide (0 ≤ w64 (x9.1 - 1))) && (decide (w64 (x9.1 - 1) < ((x9.2.set (Int.toNat x9.1) (x9.2.getD (Int.toNat (w64 (x9.1 - 1))) [])).length : Int)))) (rc10 (w64 (x9.1 - 1), (x9.2.set (Int.toNat x9.1) (x9.2.getD (Int.toNat (w64 (x9.1 - 1))) [])).set (Int.toNat (w64 (x9.1 - 1))) (x9.2.getD (Int.toNat x9.1) [])))))))
 (some x9.2)) F (a1, x6.2.2))) F (a0, a1, a3))
 ((cond (decide (w64 (bShr .u64 (IntKind.wrap .u64 (w64 (a0 + a2))) 1) < a1))
 (some (w64 ((w64 ((w64 (bShr .u64 (IntKind.wrap .u64 (w64 (a0 + a2))) 1)) + a1)) - a2), w64 (bShr .u64 (IntKind.wrap .u64 (w64 (a0 + a2))) 1), a3))
 (some (a0, a1, a3)) : Option (Int × Int × (List (List UInt8)))).bind fun x11 =>
 loopF (σ := Int × Int × (List (List UInt8))) (R := List (List UInt8)) (fun rc13 x12 =>
 cond (decide (x12.1 < x12.2.1))
 (rq ((decide (0 ≤ w64 ((w64 ((w64 ((w64 (bShr .u64 (IntKind.wrap .u64 (w64 (a0 + a2))) 1)) + a1)) - 1)) - (w64 (bShr .u64 (IntKind.wrap .u64 (w64 (x12.1 + x12.2.1))) 1))))) && (decide (w64 ((w64 ((w64 ((w64 (bShr .u64 (IntKind.wrap .u64 (w64 (a0 + a2))) 1)) + a1)) - 1)) - (w64 (bShr .u64 (IntKind.wrap .u64 (w64 (x12.1 + x12.2.1))) 1))) < (x12.2.2.length : Int)))) (rq ((decide (0 ≤ w64 (bShr .u64 (IntKind.wrap .u64 (w64 (x12.1 + x12.2.1))) 1))) && (decide (w64 (bShr .u64 (IntKind.wrap .u64 (w64 (x12.1 + x12.2.1))) 1) < (x12.2.2.length : Int)))) ((util_engine_sorted_1 F (x12.2.2.getD (Int.toNat (w64 ((w64 ((w64 ((w64 (bShr .u64 (IntKind.wrap .u64 (w64 (a0 + a2))) 1)) + a1)) - 1)) - (w64 (bShr .u64 (IntKind.wrap .u64 (w64 (x12.1 + x12.2.1))) 1))))) []) (x12.2.2.getD (Int.toNat (w64 (bShr .u64 (IntKind.wrap .u64 (w64 (x12.1 + x12.2.1))) 1))) [])).bind fun x14 =>
 cond (!(decide (x14 < 0)))
 (rc13 (w64 ((w64 (bShr .u64 (IntKind.wrap .u64 (w64 (x12.1 + x12.2.1))) 1)) + 1), x12.2.1, x12.2.2))
 (rc13 (x12.1, w64 (bShr .u64 (IntKind.wrap .u64 (w64 (x12.1 + x12.2.1))) 1), x12.2.2)))))
 (((cond (decide (x12.1 < a1))
 (some (decide (a1 < w64 ((w64 ((w64 (bShr .u64 (IntKind.wrap .u64 (w64 (a0 + a2))) 1)) + a1)) - x12.1)), x12.2.2))
 (some (false, x12.2.2)) : Option (Bool × (List (List UInt8)))).bind fun x16 =>
 cond x16.1
 ((slices_rotateCmpFunc F x12.1 a1 (w64 ((w64 ((w64 (bShr .u64 (IntKind.wrap .u64 (w64 (a0 + a2))) 1)) + a1)) - x12.1)) x16.2).bind fun x17 =>
 some x17)
 (some x16.2) : Option (List (List UInt8))).bind fun x15 =>
 ((cond (decide (a0 < x12.1))
 (some (decide (x12.1 < w64 (bShr .u64 (IntKind.wrap .u64 (w64 (a0 + a2))) 1)), x15))
 (some (false, x15)) : Option (Bool × (List (List UInt8)))).bind fun x19 =>
 cond x19.1
 ((r_slices_symMergeCmpFunc a0 x12.1 (w64 (bShr .u64 (IntKind.wrap .u64 (w64 (a0 + a2))) 1)) x19.2).bind fun x20 =>
 some x20)
 (some x19.2) : Option (List (List UInt8))).bind fun x18 =>
 (cond (decide (w64 (bShr .u64 (IntKind.wrap .u64 (w64 (a0 + a2))) 1) < w64 ((w64 ((w64 (bShr .u64 (IntKind.wrap .u64 (w64 (a0 + a2))) 1)) + a1)) - x12.1)))
 (some (decide (w64 ((w64 ((w64 (bShr .u64 (IntKind.wrap .u64 (w64 (a0 + a2))) 1)) + a1)) - x12.1) < a2), x18))
 (some (false, x18)) : Option (Bool × (List (List UInt8)))).bind fun x21 =>
 cond x21.1
 ((r_slices_symMergeCmpFunc (w64 (bShr .u64 (IntKind.wrap .u64 (w64 (a0 + a2))) 1)) (w64 ((w64 ((w64 (bShr .u64 (IntKind.wrap .u64 (w64 (a0 + a2))) 1)) + a1)) - x12.1)) a2 x21.2).bind fun x22 =>
 some x22)
 (some x21.2))) F (x11.1, x11.2.1, x11.2.2)))
def slices_symMergeCmpFunc_s : Shp := ⟨202, [.one (.gso 0), .one (.dat (.int .i64)), .one (.dat (.int .i64)), .one (.dat (.int .i64)), .one (.func 141 [])], [], [(9, 1)], ⟨.tup [], [], [none], [(0, .str)]⟩, none, [(0, .str)]⟩
def slices_symMergeCmpFunc_p : Plan := .seq [] none (.seq [] none (.leaf) (.cond (.seq [] none (.leaf) (.seq [] none (.leaf) (.seq [] none (.loop [] ⟨[(10, .one (.dat (.int .i64))), (11, .one (.dat (.int .i64)))], [], [none], [(0, .str)]⟩ (.seq [] none (.leaf) (.seq [] none (.leaf) (.seq [] none (.draw [⟨true, 9, none⟩, ⟨false, 2, none⟩]) (.leaf))))) (.seq [] none (.seq [] none (.leaf) (.loop [] ⟨[(13, .one (.dat (.int .i64)))], [], [none], [(0, .str)]⟩ (.seq [] none (.leaf) (.seq [] none (.draw [⟨true, 15, none⟩, ⟨false, 3, none⟩]) (.leaf))))) (.leaf))))) (.leaf))) (.seq [] none (.seq [] none (.leaf) (.cond (.seq [] none (.leaf) (.seq [] none (.leaf) (.seq [] none (.loop [] ⟨[(14, .one (.dat (.int .i64))), (15, .one (.dat (.int .i64)))], [], [none], [(0, .str)]⟩ (.seq [] none (.leaf) (.seq [] none (.leaf) (.seq [] none (.draw [⟨true, 9, none⟩, ⟨false, 3, none⟩]) (.leaf))))) (.seq [] none (.seq [] none (.leaf) (.loop [] ⟨[(17, .one (.dat (.int .i64)))], [], [none], [(0, .str)]⟩ (.seq [] none (.leaf) (.seq [] none (.draw [⟨true, 15, none⟩, ⟨false, 3, none⟩]) (.leaf))))) (.leaf))))) (.leaf))) (.seq [] none (.leaf) (.seq [] none (.leaf) (.seq [] none (.leaf) (.seq [] (some (⟨[(20, .one (.dat (.int .i64))), (21, .one (.dat (.int .i64)))], [], [none], [(0, .str)]⟩, false)) (.leaf) (.seq [] none (.leaf) (.seq [] none (.loop [] ⟨[(20, .one (.dat (.int .i64))), (21, .one (.dat (.int .i64)))], [], [none], [(0, .str)]⟩ (.seq [] none (.leaf) (.seq [] none (.leaf) (.seq [] none (.draw [⟨true, 11, none⟩, ⟨false, 3, none⟩]) (.leaf))))) (.seq [] none (.leaf) (.seq [] (some (⟨[], [], [none], [(0, .str)]⟩, false)) (.seq [] none (.region [(8, ⟨[(185, .one (.dat .bool))], [], [none], [(0, .str)]⟩, false)]) (.leaf)) (.seq [] (some (⟨[], [], [none], [(0, .str)]⟩, false)) (.seq [] none (.region [(8, ⟨[(199, .one (.dat .bool))], [], [none], [(0, .str)]⟩, false)]) (.leaf)) (.seq [] none (.region [(8, ⟨[(213, .one (.dat .bool))], [], [none], [(0, .str)]⟩, false)]) (.leaf))))))))))))
def slices_symMergeCmpFunc_n (F : Nat) : Nat → Int → Int → Int → (List (List UInt8)) → Option (List (List UInt8))
  | 0 => fun _ _ _ _ => none
  | n + 1 => slices_symMergeCmpFunc_m F (slices_symMergeCmpFunc_n F n)
def slices_symMergeCmpFunc (F : Nat) (a0 : Int) (a1 : Int) (a2 : Int) (a3 : List (List UInt8)) : Option (List (List UInt8)) := slices_symMergeCmpFunc_n F F a0 a1 a2 a3
def slices_symMergeCmpFunc_cn (F n : Nat) : Ctr E := ⟨slices_symMergeCmpFunc_s, fun (x : Int × Int × Int × (List (List UInt8))) => slices_symMergeCmpFunc_n F n x.1 x.2.1 x.2.2.1 x.2.2.2⟩
def slices_symMergeCmpFunc_c (F : Nat) : Ctr E := ⟨slices_symMergeCmpFunc_s, fun (x : Int × Int × Int × (List (List UInt8))) => slices_symMergeCmpFunc F x.1 x.2.1 x.2.2.1 x.2.2.2⟩
theorem slices_symMergeCmpFunc_st (F n : Nat) (h : (slices_symMergeCmpFunc_cn F n).Ok Tryz.prog) : (slices_symMergeCmpFunc_cn F (n + 1)).Ok Tryz.prog := Ctr.ok_of (X := ⟨Tryz.prog, tyT, [slices_rotateCmpFunc_c F, slices_symMergeCmpFunc_cn F n, util_engine_sorted_1_c F], [], none⟩) (F := F) ⟨E_ok, okC (slices_rotateCmpFunc_ok F) (okC h (okC (util_engine_sorted_1_ok F) (okN))), mixed, goN, rvN⟩ (pl := slices_symMergeCmpFunc_p) Tryz.func202 (by kernel_rfl) (fun x => by kernel_rfl)
theorem slices_symMergeCmpFunc_okn (F : Nat) : ∀ n, (slices_symMergeCmpFunc_cn F n).Ok Tryz.prog
  | 0 => (fun x y h => nomatch (show none = some y from h))
  | n + 1 => by
    have h := slices_symMergeCmpFunc_okn F n
    exact slices_symMergeCmpFunc_st F n h
theorem slices_symMergeCmpFunc_ok (F : Nat) : (slices_symMergeCmpFunc_c F).Ok Tryz.prog := (slices_symMergeCmpFunc_okn F F)
/- slices.stableCmpFunc[string] -/
def slices_stableCmpFunc (F : Nat)  (a0 : Int) (a1 : List (List UInt8)) : Option (List (List UInt8)) :=
 loopF (σ := Int × Int × (List (List UInt8))) (R := List (List UInt8)) (fun rc2 x1 =>
 cond (decide (x1.2.1 ≤ a0))
 ((slices_insertionSortCmpFunc F x1.1 x1.2.1 x1.2.2).bind fun x3 =>
 rc2 (x1.2.1, w64 (x1.2.1 + 20), x3))
 ((slices_insertionSortCmpFunc F x1.1 a0 x1.2.2).bind fun x4 =>
 loopF (σ := Int × (List (List UInt8))) (R := List (List UInt8)) (fun rc6 x5 =>
 cond (decide (x5.1 < a0))
 (loopF (σ := Int × Int × (List (List UInt8))) (R := List (List UInt8)) (fun rc8 x7 =>
 cond (decide (x7.2.1 ≤ a0))
 ((slices_symMergeCmpFunc F x7.1 (w64 (x7.1 + x5.1)) x7.2.1 x7.2.2).bind fun x9 =>
 rc8 (x7.2.1, w64 (x7.2.1 + (w64 (2 * x5.1))), x9))
 (cond (decide (w64 (x7.1 + x5.1) < a0))
 ((slices_symMergeCmpFunc F x7.1 (w64 (x7.1 + x5.1)) a0 x7.2.2).bind fun x10 =>
 rc6 (w64 (x5.1 * 2), x10))
 (rc6 (w64 (x5.1 * 2), x7.2.2)))) F (0, w64 (2 * x5.1), x5.2))
 (some x5.2)) F (20, x4))) F (0, 20, a1)
def slices_stableCmpFunc_s : Shp := ⟨169, [.one (.gso 0), .one (.dat (.int .i64)), .one (.func 141 [])], [], [(9, 1)], ⟨.tup [], [], [none], [(0, .str)]⟩, none, [(0, .str)]⟩
def slices_stableCmpFunc_p : Plan := .seq [] none (.leaf) (.seq [] none (.leaf) (.seq [] none (.loop [] ⟨[(7, .one (.dat (.int .i64))), (8, .one (.dat (.int .i64)))], [], [none], [(0, .str)]⟩ (.leaf)) (.seq [] none (.leaf) (.loop [] ⟨[(6, .one (.dat (.int .i64)))], [], [none], [(0, .str)]⟩ (.seq [] none (.leaf) (.seq [] none (.leaf) (.seq [] none (.loop [] ⟨[(7, .one (.dat (.int .i64))), (8, .one (.dat (.int .i64)))], [], [none], [(0, .str)]⟩ (.leaf)) (.leaf))))))))
def slices_stableCmpFunc_c (F : Nat) : Ctr E := ⟨slices_stableCmpFunc_s, fun (x : Int × (List (List UInt8))) => slices_stableCmpFunc F x.1 x.2⟩
theorem slices_stableCmpFunc_ok (F : Nat) : (slices_stableCmpFunc_c F).Ok Tryz.prog := Ctr.ok_of (X := ⟨Tryz.prog, tyT, [slices_insertionSortCmpFunc_c F, slices_symMergeCmpFunc_c F], [], none⟩) (F := F) ⟨E_ok, okC (slices_insertionSortCmpFunc_ok F) (okC (slices_symMergeCmpFunc_ok F) (okN)), mixed, goN, rvN⟩ (pl := slices_stableCmpFunc_p) Tryz.func169 (by kernel_rfl) (fun x => by kernel_rfl)
/- slices.SortStableFunc[[]string,string] -/
def slices_SortStableFunc (F : Nat)  (a0 : List (List UInt8)) : Option (List (List UInt8)) :=
 (slices_stableCmpFunc F (a0.length : Int) a0).bind fun x1 =>
 some x1
def slices_SortStableFunc_s : Shp := ⟨140, [.one (.gso 0), .one (.func 141 [])], [], [(9, 1)], ⟨.tup [], [], [none], [(0, .str)]⟩, none, [(0, .str)]⟩
def slices_SortStableFunc_p : Plan := .leaf
def slices_SortStableFunc_c (F : Nat) : Ctr E := ⟨slices_SortStableFunc_s, fun (x : List (List UInt8)) => slices_SortStableFunc F x⟩
theorem slices_SortStableFunc_ok (F : Nat) : (slices_SortStableFunc_c F).Ok Tryz.prog := Ctr.ok_of (X := ⟨Tryz.prog, tyT, [slices_stableCmpFunc_c F], [], none⟩) (F := F) ⟨E_ok, okC (slices_stableCmpFunc_ok F) (okN), mixed, goN, rvN⟩ (pl := slices_SortStableFunc_p) Tryz.func140 (by kernel_rfl) (fun x => by kernel_rfl)
/- (*jobshell/util.engine).sorted -/
def util_engine_sorted (F : Nat)  (a0 : TUtil) (a1 : Twords) (a2 : TAinti648) (a3 : List Int) : Option (List (List UInt8)) :=
 (util_lines F a0.fBuf).bind fun x1 =>
 (sortF F x1).bind fun x2 =>
 ((util_words_has F a1 117).bind fun x4 =>
 cond x4
 ((compF' F x2).bind fun x5 =>
 some x5)
 (some x2) : Option (List (List UInt8))).bind fun x3 =>
 ((util_words_has F a1 110).bind fun x7 =>
 cond x7
 ((slices_SortStableFunc F x3).bind fun x8 =>
 some x8)
 (some x3) : Option (List (List UInt8))).bind fun x6 =>
 (util_words_has F a1 114).bind fun x9 =>
 cond x9
 ((revF F x6).bind fun x10 =>
 some x10)
 (some x6)
def util_engine_sorted_s : Shp := ⟨108, [.one (.ptr 0 0)], [(bt0)], [(3, 1)], ⟨.one (.dat (.lst .str)), [none], [none], []⟩, none, []⟩
def util_engine_sorted_p : Plan := .seq [] none (.leaf) (.seq [] none (.leaf) (.seq [] none (.leaf) (.seq [] (some (⟨[(3, .one (.gso 1))], [none], [none, some (9, 1)], [(1, .str)]⟩, false)) (.leaf) (.seq [] (some (⟨[], [none], [none, none], [(1, .str)]⟩, false)) (.leaf) (.leaf)))))
def util_engine_sorted_c (F : Nat) : Ctr E := ⟨util_engine_sorted_s, fun (x : TUtil × Twords × TAinti648 × (List Int)) => util_engine_sorted F x.1 x.2.1 x.2.2.1 x.2.2.2⟩
theorem util_engine_sorted_ok (F : Nat) : (util_engine_sorted_c F).Ok Tryz.prog := Ctr.ok_of (X := ⟨Tryz.prog, tyT, [slicesSort_c F, slicesCompact_c F, slices_SortStableFunc_c F, slicesReverse_c F, util_lines_c F, util_words_has_c F], [], none⟩) (F := F) ⟨E_ok, okC (slicesSort_ok F) (okC (slicesCompact_ok F) (okC (slices_SortStableFunc_ok F) (okC (slicesReverse_ok F) (okC (util_lines_ok F) (okC (util_words_has_ok F) (okN)))))), mixed, goN, rvN⟩ (pl := util_engine_sorted_p) Tryz.func108 (by kernel_rfl) (fun x => by kernel_rfl)
/- jobshell/util.joined -/
def util_joined_1 (F : Nat)  (a0 : List (List UInt8)) : Option ((List UInt8) × (List (List UInt8))) :=
 loopF (σ := Int × Bool × (List Int) × (List (List UInt8))) (R := (List UInt8) × (List (List UInt8))) (fun rc2 x1 =>
 cond (decide (x1.1 < (a0.length : Int)))
 (rq ((decide (0 ≤ x1.1)) && (decide (x1.1 < (x1.2.2.2.length : Int)))) ((strings_Builder_WriteString F (x1.2.2.2.getD (Int.toNat x1.1) []) x1.2.1 x1.2.2.1).bind fun x3 =>
 (strings_Builder_WriteByte F 10 x3.2.1 x3.2.2).bind fun x4 =>
 rc2 (w64 (x1.1 + 1), x4.1, x4.2, x1.2.2.2)))
 ((strings_Builder_String F x1.2.1 x1.2.2.1).bind fun x5 =>
 some (x5, x1.2.2.2))) F (0, false, ([] : List Int), a0)
def util_joined_1_s : Shp := ⟨99, [.one (.gso 0)], [], [(9, 1)], ⟨.one (.dat .str), [], [none], [(0, .str)]⟩, none, [(0, .str)]⟩
def util_joined_1_p : Plan := .seq [] none (.leaf) (.seq [] none (.leaf) (.seq [.cell 0 1 5 (.int .u8)] none (.seq [] none (.leaf) (.loop [] ⟨[(8, .one (.dat (.int .i64)))], [some (.cells 130 [.optr 0 0, .gsl 1 (.int .u8)])], [none, some (5, 1)], [(0, .str)]⟩ (.leaf))) (.leaf)))
def util_joined_1_c (F : Nat) : Ctr E := ⟨util_joined_1_s, fun (x : List (List UInt8)) => util_joined_1 F x⟩
theorem util_joined_1_ok (F : Nat) : (util_joined_1_c F).Ok Tryz.prog := Ctr.ok_of (X := ⟨Tryz.prog, tyT, [strings_Builder_WriteString_c F, strings_Builder_WriteByte_c F, strings_Builder_String_c F], [], none⟩) (F := F) ⟨E_ok, okC (strings_Builder_WriteString_ok F) (okC (strings_Builder_WriteByte_ok F) (okC (strings_Builder_String_ok F) (okN))), mixed, goN, rvN⟩ (pl := util_joined_1_p) Tryz.func99 (by kernel_rfl) (fun x => by kernel_rfl)
/- (*jobshell/util.engine).finish -/
def util_engine_finish (F : Nat)  (a0 : TUtil) (a1 : Twords) (a2 : TAinti648) (a3 : List Int) : Option (TUtil × Twords × TAinti648 × (List Int)) :=
 cond (a0.fName == ([116, 97, 105, 108] : List UInt8))
 (((util_lines F a0.fBuf).bind fun x2 =>
 some x2 : Option (List (List UInt8))).bind fun x1 =>
 rq ((decide (0 ≤ cond (decide (w64 ((x1.length : Int) - a1.fcount) < 0)) 0 (w64 ((x1.length : Int) - a1.fcount)))) && ((decide (cond (decide (w64 ((x1.length : Int) - a1.fcount) < 0)) 0 (w64 ((x1.length : Int) - a1.fcount)) ≤ (x1.length : Int))) && (decide ((x1.length : Int) ≤ (x1.length : Int))))) ((util_joined F (sl x1 (cond (decide (w64 ((x1.length : Int) - a1.fcount) < 0)) 0 (w64 ((x1.length : Int) - a1.fcount))) (x1.length : Int))).bind fun x3 =>
 (util_engine_write F 1 x3 3 a0 a1 a2 a3).bind fun x4 =>
 some (x4.1, x4.2.1, x4.2.2.1, x4.2.2.2)))
 (cond (a0.fName == ([119, 99] : List UInt8))
 (none)
 (cond (a0.fName == ([115, 111, 114, 116] : List UInt8))
 ((util_engine_sorted F a0 a1 a2 a3).bind fun x5 =>
 (util_joined F x5).bind fun x6 =>
 (util_engine_write F 1 x6 3 a0 a1 a2 a3).bind fun x7 =>
 some (x7.1, x7.2.1, x7.2.2.1, x7.2.2.2))
 (cond (a0.fName == ([117, 110, 105, 113] : List UInt8))
 (none)
 (cond (a0.fName == ([103, 114, 101, 112] : List UInt8))
 (none)
 (cond (a0.fName == ([114, 101, 118] : List UInt8))
 ((util_lines F a0.fBuf).bind fun x8 =>
 loopF (σ := Int × (List (List UInt8))) (R := TUtil × Twords × TAinti648 × (List Int)) (fun rc10 x9 =>
 cond (decide (x9.1 < (x8.length : Int)))
 (rq ((decide (0 ≤ x9.1)) && (decide (x9.1 < (x9.2.length : Int)))) (rq (decide ((x9.2.getD (Int.toNat x9.1) []).length ≤ 9223372036854775807)) (rq ((decide (0 ≤ x9.1)) && (decide (x9.1 < (x9.2.length : Int)))) (rc10 (w64 (x9.1 + 1), x9.2.set (Int.toNat x9.1) ((x9.2.getD (Int.toNat x9.1) []).reverse))))))
 ((util_joined_1 F x9.2).bind fun x11 =>
 (util_engine_write F 1 x11.1 3 a0 a1 a2 a3).bind fun x12 =>
 some (x12.1, x12.2.1, x12.2.2.1, x12.2.2.2))) F (0, x8))
 (some ({ a0 with fState := 3 }, a1, a2, a3)))))))
def util_engine_finish_s : Shp := ⟨67, [.one (.ptr 0 0)], [(bt0)], [(3, 1)], ⟨.tup [], [some (bt0)], [none], []⟩, none, []⟩
def util_engine_finish_p : Plan := .seq [] none (.leaf) (.seq [] none (.leaf) (.cond (.seq [] none (.region [(6, ⟨[(23, .one (.dat (.lst .str)))], [none], [none], []⟩, false)]) (.leaf)) (.seq [] none (.leaf) (.cond (.leaf) (.seq [] none (.leaf) (.cond (.leaf) (.seq [] none (.leaf) (.cond (.leaf) (.seq [] none (.leaf) (.cond (.leaf) (.seq [] none (.leaf) (.cond (.seq [] none (.leaf) (.seq [] none (.seq [] none (.leaf) (.loop [] ⟨[(73, .one (.dat (.int .i64)))], [none], [none, none], [(1, .str)]⟩ (.seq [] none (.leaf) (.seq [] none (.leaf) (.seq [] none (.seq [] none (.leaf) (.rev)) (.leaf)))))) (.leaf))) (.leaf)))))))))))))
def util_engine_finish_c (F : Nat) : Ctr E := ⟨util_engine_finish_s, fun (x : TUtil × Twords × TAinti648 × (List Int)) => util_engine_finish F x.1 x.2.1 x.2.2.1 x.2.2.2⟩
theorem util_engine_finish_ok (F : Nat) : (util_engine_finish_c F).Ok Tryz.prog := Ctr.ok_of (X := ⟨Tryz.prog, tyT, [util_joined_1_c F, util_lines_c F, util_joined_c F, util_engine_write_c F, absurd107_c F, util_engine_sorted_c F, absurd109_c F, absurd110_c F], [], some 111⟩) (F := F) ⟨E_ok, okC (util_joined_1_ok F) (okC (util_lines_ok F) (okC (util_joined_ok F) (okC (util_engine_write_ok F) (okC (absurd107_ok F) (okC (util_engine_sorted_ok F) (okC (absurd109_ok F) (okC (absurd110_ok F) (okN)))))))), mixed, goN, rvS rvAt⟩ (pl := util_engine_finish_p) Tryz.func67 (by kernel_rfl) (fun x => by kernel_rfl)
/- (*jobshell/util.engine).head -/
def util_engine_head (F : Nat)  (a0 : List UInt8) (a1 : TUtil) (a2 : Twords) (a3 : TAinti648) (a4 : List Int) : Option (TUtil × Twords × TAinti648 × (List Int)) :=
 loopF (σ := Int × TUtil × Twords × TAinti648 × (List Int)) (R := TUtil × Twords × TAinti648 × (List Int)) (fun rc2 x1 =>
 cond (decide (x1.1 < (a0.length : Int)))
 (rq ((decide (0 ≤ x1.1)) && (decide (x1.1 < (a0.length : Int)))) (cond (((a0.getD (Int.toNat x1.1) 0).toNat : Int) != 10)
 (rc2 (w64 (x1.1 + 1), x1.2.1, x1.2.2.1, x1.2.2.2.1, x1.2.2.2.2))
 (cond ((w64 (x1.2.2.2.1.2.2.2.2.2.2.1 - 1)) == 0)
 (rq ((decide (0 ≤ w64 (x1.1 + 1))) && (decide (w64 (x1.1 + 1) ≤ (a0.length : Int)))) ((util_engine_write F 1 (sl a0 0 (w64 (x1.1 + 1))) 15 x1.2.1 x1.2.2.1 (x1.2.2.2.1.1, (x1.2.2.2.1.2.1, (x1.2.2.2.1.2.2.1, (x1.2.2.2.1.2.2.2.1, (x1.2.2.2.1.2.2.2.2.1, (x1.2.2.2.1.2.2.2.2.2.1, (w64 (x1.2.2.2.1.2.2.2.2.2.2.1 - 1), (1, ())))))))) x1.2.2.2.2).bind fun x3 =>
 some (x3.1, x3.2.1, x3.2.2.1, x3.2.2.2)))
 (rc2 (w64 (x1.1 + 1), x1.2.1, x1.2.2.1, (x1.2.2.2.1.1, (x1.2.2.2.1.2.1, (x1.2.2.2.1.2.2.1, (x1.2.2.2.1.2.2.2.1, (x1.2.2.2.1.2.2.2.2.1, (x1.2.2.2.1.2.2.2.2.2.1, (w64 (x1.2.2.2.1.2.2.2.2.2.2.1 - 1), x1.2.2.2.1.2.2.2.2.2.2.2))))))), x1.2.2.2.2)))))
 ((util_engine_write F 1 a0 12 x1.2.1 x1.2.2.1 x1.2.2.2.1 x1.2.2.2.2).bind fun x4 =>
 some (x4.1, x4.2.1, x4.2.2.1, x4.2.2.2))) F (0, a1, a2, a3, a4)
def util_engine_head_s : Shp := ⟨147, [.one (.ptr 0 0), .one (.dat .str)], [(bt0)], [(3, 1)], ⟨.tup [], [some (bt0)], [none], []⟩, none, []⟩
def util_engine_head_p : Plan := .seq [] none (.seq [] none (.leaf) (.loop [] ⟨[(4, .one (.dat (.int .i64)))], [some (bt0)], [none], []⟩ (.seq [] none (.leaf) (.seq [] none (.seq [] none (.leaf) (.seq [] none (.draw [⟨true, 9, none⟩, ⟨false, 1, none⟩]) (.leaf))) (.leaf))))) (.leaf)
def util_engine_head_c (F : Nat) : Ctr E := ⟨util_engine_head_s, fun (x : (List UInt8) × TUtil × Twords × TAinti648 × (List Int)) => util_engine_head F x.1 x.2.1 x.2.2.1 x.2.2.2.1 x.2.2.2.2⟩
theorem util_engine_head_ok (F : Nat) : (util_engine_head_c F).Ok Tryz.prog := Ctr.ok_of (X := ⟨Tryz.prog, tyT, [util_engine_write_c F], [], none⟩) (F := F) ⟨E_ok, okC (util_engine_write_ok F) (okN), mixed, goN, rvN⟩ (pl := util_engine_head_p) Tryz.func147 (by kernel_rfl) (fun x => by kernel_rfl)
/- (*jobshell/util.engine).consume -/
def util_engine_consume (F : Nat)  (a0 : List UInt8) (a1 : TUtil) (a2 : Twords) (a3 : TAinti648) (a4 : List Int) : Option (TUtil × Twords × TAinti648 × (List Int)) :=
 cond (a1.fName == ([99, 97, 116] : List UInt8))
 ((util_engine_write F 1 a0 12 a1 a2 a3 a4).bind fun x1 =>
 some (x1.1, x1.2.1, x1.2.2.1, x1.2.2.2))
 (cond (a1.fName == ([104, 101, 97, 100] : List UInt8))
 ((util_engine_head F a0 a1 a2 a3 a4).bind fun x2 =>
 some (x2.1, x2.2.1, x2.2.2.1, x2.2.2.2))
 (cond (a1.fName == ([116, 101, 101] : List UInt8))
 ((util_engine_write F 1 a0 14 ({ a1 with fBuf := a0 }) a2 (a3.1, (a3.2.1, (a3.2.2.1, (a3.2.2.2.1, (a3.2.2.2.2.1, (0, a3.2.2.2.2.2.2)))))) a4).bind fun x3 =>
 some (x3.1, x3.2.1, x3.2.2.1, x3.2.2.2))
 (cond (a1.fName == ([99, 112] : List UInt8))
 ((util_engine_write F a3.2.2.2.2.2.1 a0 27 a1 a2 a3 a4).bind fun x4 =>
 some (x4.1, x4.2.1, x4.2.2.1, x4.2.2.2))
 (cond (decide (65536 < w64 ((a1.fBuf.length : Int) + (a0.length : Int))))
 ((util_engine_report F ([105, 110, 112, 117, 116] : List UInt8) 3 4 ({ a1 with fN := 1 }) a2 a3 a4).bind fun x5 =>
 some (x5.1, x5.2.1, x5.2.2.1, x5.2.2.2))
 (rq (decide (a1.fBuf.length + a0.length ≤ 9223372036854775807)) (some ({ a1 with fState := 12, fBuf := a1.fBuf ++ a0 }, a2, a3, a4)))))))
def util_engine_consume_s : Shp := ⟨112, [.one (.ptr 0 0), .one (.dat .str)], [(bt0)], [(3, 1)], ⟨.tup [], [some (bt0)], [none], []⟩, none, []⟩
def util_engine_consume_p : Plan := .seq [] none (.leaf) (.seq [] none (.leaf) (.cond (.leaf) (.seq [] none (.leaf) (.cond (.leaf) (.seq [] none (.leaf) (.cond (.seq [] none (.drawP [] [] [⟨[(0, true), (1, true), (2, true), (3, true), (4, true), (5, true), (7, true), (8, true), (6, false), (9, false), (10, false)], none⟩]) (.leaf)) (.leaf)))))))
def util_engine_consume_c (F : Nat) : Ctr E := ⟨util_engine_consume_s, fun (x : (List UInt8) × TUtil × Twords × TAinti648 × (List Int)) => util_engine_consume F x.1 x.2.1 x.2.2.1 x.2.2.2.1 x.2.2.2.2⟩
theorem util_engine_consume_ok (F : Nat) : (util_engine_consume_c F).Ok Tryz.prog := Ctr.ok_of (X := ⟨Tryz.prog, tyT, [util_engine_write_c F, util_engine_head_c F, util_engine_report_c F], [], none⟩) (F := F) ⟨E_ok, okC (util_engine_write_ok F) (okC (util_engine_head_ok F) (okC (util_engine_report_ok F) (okN))), mixed, goN, rvN⟩ (pl := util_engine_consume_p) Tryz.func112 (by kernel_rfl) (fun x => by kernel_rfl)
/- (*jobshell/util.engine).got -/
def util_engine_got (F : Nat)  (a0 : List UInt8) (a1 : TAns) (a2 : TUtil) (a3 : Twords) (a4 : TAinti648) (a5 : List Int) : Option (TUtil × Twords × TAinti648 × (List Int)) :=
 (cond (a2.fName == ([99, 112] : List UInt8))
 (some 28)
 (some 15) : Option Int).bind fun x1 =>
 cond (a1.fErr != 0)
 ((util_engine_fail F a0 a1.fErr x1 a2 a3 a4 a5).bind fun x2 =>
 some (x2.1, x2.2.1, x2.2.2.1, x2.2.2.2))
 (cond (a1.fData == [])
 (some ({ a2 with fState := x1 }, a3, a4, a5))
 ((util_engine_consume F a1.fData a2 a3 a4 a5).bind fun x3 =>
 some (x3.1, x3.2.1, x3.2.2.1, x3.2.2.2)))
def util_engine_got_s : Shp := ⟨69, [.one (.ptr 0 0), .one (.dat .str), .one (.dat (.ext 1))], [(bt0)], [(3, 1)], ⟨.tup [], [some (bt0)], [none], []⟩, none, []⟩
def util_engine_got_p : Plan := .seq [] none (.leaf) (.seq [] none (.leaf) (.seq [] (some (⟨[(6, .one (.dat (.int .i64)))], [none, none], [none], []⟩, false)) (.leaf) (.leaf)))
def util_engine_got_c (F : Nat) : Ctr E := ⟨util_engine_got_s, fun (x : (List UInt8) × TAns × TUtil × Twords × TAinti648 × (List Int)) => util_engine_got F x.1 x.2.1 x.2.2.1 x.2.2.2.1 x.2.2.2.2.1 x.2.2.2.2.2⟩
theorem util_engine_got_ok (F : Nat) : (util_engine_got_c F).Ok Tryz.prog := Ctr.ok_of (X := ⟨Tryz.prog, tyT, [util_engine_fail_c F, util_engine_consume_c F], [], none⟩) (F := F) ⟨E_ok, okC (util_engine_fail_ok F) (okC (util_engine_consume_ok F) (okN)), mixed, goN, rvN⟩ (pl := util_engine_got_p) Tryz.func69 (by kernel_rfl) (fun x => by kernel_rfl)
/- (*jobshell/util.engine).stream -/
def util_engine_stream (F : Nat)  (a0 : TAns) (a1 : TUtil) (a2 : Twords) (a3 : TAinti648) (a4 : List Int) : Option (TReq × Bool × TUtil × Twords × TAinti648 × (List Int)) :=
 (util_engine_inputs F a1 a2 a3 a4).bind fun x1 =>
 (util_element F x1 a3.2.2.2.1).bind fun x2 =>
 cond (a1.fState == 10)
 ((cond (decide ((x1.length : Int) ≤ a3.2.2.2.1))
 (some true)
 (some (a3.2.2.2.2.2.2.2.1 != 0)) : Option Bool).bind fun x3 =>
 cond x3
 ((util_engine_finish F a1 a2 a3 a4).bind fun x4 =>
 some ((TReq.mk 0 0 0 0 0 0 0 0 [] [] [] []), false, x4.1, x4.2.1, x4.2.2.1, x4.2.2.2))
 (cond (x2 == ([45] : List UInt8))
 ((util_engine_move F 12 a1 a2 (a3.1, (a3.2.1, (a3.2.2.1, (a3.2.2.2.1, (0, a3.2.2.2.2.2))))) a4).bind fun x5 =>
 some (x5.1, x5.2.1, x5.2.2.1, x5.2.2.2.1, x5.2.2.2.2.1, x5.2.2.2.2.2))
 ((util_engine_ask F 11 (TReq.mk 3 0 0 0 0 0 3 1 x2 [] [] []) a1 a2 a3 a4).bind fun x6 =>
 some (x6.1, x6.2.1, x6.2.2.1, x6.2.2.2.1, x6.2.2.2.2.1, x6.2.2.2.2.2))))
 (cond (a1.fState == 11)
 (cond (a0.fErr != 0)
 ((util_engine_fail F x2 a0.fErr 10 a1 a2 (a3.1, (a3.2.1, (a3.2.2.1, (w64 (a3.2.2.2.1 + 1), a3.2.2.2.2)))) a4).bind fun x7 =>
 some ((TReq.mk 0 0 0 0 0 0 0 0 [] [] [] []), false, x7.1, x7.2.1, x7.2.2.1, x7.2.2.2))
 ((util_engine_move F 12 a1 a2 (a3.1, (a3.2.1, (a3.2.2.1, (a3.2.2.2.1, (a0.fFd, a3.2.2.2.2.2))))) a4).bind fun x8 =>
 some (x8.1, x8.2.1, x8.2.2.1, x8.2.2.2.1, x8.2.2.2.2.1, x8.2.2.2.2.2)))
 (cond (a1.fState == 12)
 ((util_engine_ask F 13 (TReq.mk 1 a3.2.2.2.2.1 0 0 0 0 32 0 [] [] [] []) a1 a2 a3 a4).bind fun x9 =>
 some (x9.1, x9.2.1, x9.2.2.1, x9.2.2.2.1, x9.2.2.2.2.1, x9.2.2.2.2.2))
 (cond (a1.fState == 13)
 ((util_engine_got F x2 a0 a1 a2 a3 a4).bind fun x10 =>
 some ((TReq.mk 0 0 0 0 0 0 0 0 [] [] [] []), false, x10.1, x10.2.1, x10.2.2.1, x10.2.2.2))
 (cond (a1.fState == 14)
 (none)
 (cond (a1.fState == 15)
 (cond (!(x2 == ([45] : List UInt8)))
 ((util_engine_ask F 16 (TReq.mk 4 a3.2.2.2.2.1 0 0 0 0 0 0 [] [] [] []) a1 a2 a3 a4).bind fun x11 =>
 some (x11.1, x11.2.1, x11.2.2.1, x11.2.2.2.1, x11.2.2.2.2.1, x11.2.2.2.2.2))
 ((util_engine_move F 16 a1 a2 a3 a4).bind fun x12 =>
 some (x12.1, x12.2.1, x12.2.2.1, x12.2.2.2.1, x12.2.2.2.2.1, x12.2.2.2.2.2)))
 (cond (a1.fState == 16)
 ((util_engine_move F 10 a1 a2 (a3.1, (a3.2.1, (a3.2.2.1, (w64 (a3.2.2.2.1 + 1), a3.2.2.2.2)))) a4).bind fun x13 =>
 some (x13.1, x13.2.1, x13.2.2.1, x13.2.2.2.1, x13.2.2.2.2.1, x13.2.2.2.2.2))
 (none)))))))
def util_engine_stream_s : Shp := ⟨40, [.one (.ptr 0 0), .one (.dat (.ext 1))], [(bt0)], [(3, 1)], ⟨.tup [.dat (.ext 3), .dat .bool], [some (bt0)], [none], []⟩, none, []⟩
def util_engine_stream_p : Plan := .seq [] none (.leaf) (.seq [] none (.drawP [0] [] [⟨[(0, true), (2, true), (3, true), (4, true), (5, true), (6, true), (1, false), (7, false), (8, false)], none⟩]) (.seq [] none (.leaf) (.seq [] none (.seq [] none (.leaf) (.seq [] none (.leaf) (.cond (.seq [] none (.seq [] none (.region [(12, ⟨[(42, .one (.dat .bool))], [none, none, none], [none], []⟩, false)]) (.leaf)) (.leaf)) (.seq [] none (.leaf) (.cond (.seq [] none (.seq [] none (.leaf) (.cond (.seq [] none (.draw [⟨true, 9, none⟩, ⟨false, 1, none⟩]) (.leaf)) (.leaf))) (.seq [] none (.draw [⟨true, 6, none⟩, ⟨false, 1, none⟩]) (.leaf))) (.seq [] none (.leaf) (.cond (.leaf) (.seq [] none (.leaf) (.cond (.leaf) (.seq [] none (.leaf) (.cond (.leaf) (.seq [] none (.leaf) (.cond (.leaf) (.seq [] none (.leaf) (.cond (.seq [] none (.draw [⟨true, 9, none⟩, ⟨false, 1, none⟩]) (.leaf)) (.leaf)))))))))))))))) (.leaf))))
def util_engine_stream_c (F : Nat) : Ctr E := ⟨util_engine_stream_s, fun (x : TAns × TUtil × Twords × TAinti648 × (List Int)) => util_engine_stream F x.1 x.2.1 x.2.2.1 x.2.2.2.1 x.2.2.2.2⟩
theorem util_engine_stream_ok (F : Nat) : (util_engine_stream_c F).Ok Tryz.prog := Ctr.ok_of (X := ⟨Tryz.prog, tyT, [util_engine_inputs_c F, util_element_c F, util_engine_finish_c F, util_engine_move_c F, util_engine_ask_c F, util_engine_fail_c F, util_engine_got_c F, absurd70_c F, absurd71_c F], [], none⟩) (F := F) ⟨E_ok, okC (util_engine_inputs_ok F) (okC (util_element_ok F) (okC (util_engine_finish_ok F) (okC (util_engine_move_ok F) (okC (util_engine_ask_ok F) (okC (util_engine_fail_ok F) (okC (util_engine_got_ok F) (okC (absurd70_ok F) (okC (absurd71_ok F) (okN))))))))), mixed, goN, rvN⟩ (pl := util_engine_stream_p) Tryz.func40 (by kernel_rfl) (fun x => by kernel_rfl)
/- (*jobshell/util.engine).items -/
def util_engine_items (F : Nat)  (a0 : TUtil) (a1 : Twords) (a2 : TAinti648) (a3 : List Int) : Option (List (List UInt8)) :=
 cond (a0.fName == ([107, 105, 108, 108] : List UInt8))
 (none)
 ((cond (a0.fName == ([108, 115] : List UInt8))
 (some ((a1.foperands.length : Int) == 0))
 (some false) : Option Bool).bind fun x1 =>
 cond x1
 (some ([([46] : List UInt8)] : List (List UInt8)))
 (some a1.foperands))
def util_engine_items_s : Shp := ⟨72, [.one (.ptr 0 0)], [(bt0)], [(3, 1)], ⟨.one (.dat (.lst .str)), [none], [none], []⟩, none, []⟩
def util_engine_items_p : Plan := .seq [] none (.leaf) (.seq [] none (.leaf) (.seq [] none (.seq [] none (.leaf) (.cond (.leaf) (.seq [] none (.region [(11, ⟨[(32, .one (.dat .bool))], [none], [none], []⟩, false)]) (.leaf)))) (.leaf)))
def util_engine_items_c (F : Nat) : Ctr E := ⟨util_engine_items_s, fun (x : TUtil × Twords × TAinti648 × (List Int)) => util_engine_items F x.1 x.2.1 x.2.2.1 x.2.2.2⟩
theorem util_engine_items_ok (F : Nat) : (util_engine_items_c F).Ok Tryz.prog := Ctr.ok_of (X := ⟨Tryz.prog, tyT, [absurd113_c F], [], none⟩) (F := F) ⟨E_ok, okC (absurd113_ok F) (okN), mixed, goN, rvN⟩ (pl := util_engine_items_p) Tryz.func72 (by kernel_rfl) (fun x => by kernel_rfl)
/- (*jobshell/util.engine).first -/
def util_engine_first (F : Nat)  (a0 : List UInt8) (a1 : TUtil) (a2 : Twords) (a3 : TAinti648) (a4 : List Int) : Option (TReq × Bool × TUtil × Twords × TAinti648 × (List Int)) :=
 cond (a1.fName == ([116, 111, 117, 99, 104] : List UInt8))
 ((util_engine_ask F 20 (TReq.mk 3 0 0 0 0 0 3 10 a0 [] [] []) a1 a2 a3 a4).bind fun x1 =>
 some (x1.1, x1.2.1, x1.2.2.1, x1.2.2.2.1, x1.2.2.2.2.1, x1.2.2.2.2.2))
 (cond (a1.fName == ([109, 107, 100, 105, 114] : List UInt8))
 ((util_engine_ask F 21 (TReq.mk 17 0 0 0 0 0 0 0 a0 [] [] []) a1 a2 a3 a4).bind fun x2 =>
 some (x2.1, x2.2.1, x2.2.2.1, x2.2.2.2.1, x2.2.2.2.2.1, x2.2.2.2.2.2))
 (cond (a1.fName == ([108, 115] : List UInt8))
 ((util_engine_ask F 20 (TReq.mk 20 0 0 0 0 0 0 0 a0 [] [] []) a1 a2 a3 a4).bind fun x3 =>
 some (x3.1, x3.2.1, x3.2.2.1, x3.2.2.2.1, x3.2.2.2.2.1, x3.2.2.2.2.2))
 (cond (a1.fName == ([107, 105, 108, 108] : List UInt8))
 (none)
 ((util_engine_ask F 20 (TReq.mk 21 0 0 0 0 0 0 0 a0 [] [] []) a1 a2 a3 a4).bind fun x4 =>
 some (x4.1, x4.2.1, x4.2.2.1, x4.2.2.2.1, x4.2.2.2.2.1, x4.2.2.2.2.2)))))
def util_engine_first_s : Shp := ⟨73, [.one (.ptr 0 0), .one (.dat .str)], [(bt0)], [(3, 1)], ⟨.tup [.dat (.ext 3), .dat .bool], [some (bt0)], [none], []⟩, none, []⟩
def util_engine_first_p : Plan := .leaf
def util_engine_first_c (F : Nat) : Ctr E := ⟨util_engine_first_s, fun (x : (List UInt8) × TUtil × Twords × TAinti648 × (List Int)) => util_engine_first F x.1 x.2.1 x.2.2.1 x.2.2.2.1 x.2.2.2.2⟩
theorem util_engine_first_ok (F : Nat) : (util_engine_first_c F).Ok Tryz.prog := Ctr.ok_of (X := ⟨Tryz.prog, tyT, [util_engine_ask_c F, absurd113_c F], [], none⟩) (F := F) ⟨E_ok, okC (util_engine_ask_ok F) (okC (absurd113_ok F) (okN)), mixed, goN, rvN⟩ (pl := util_engine_first_p) Tryz.func73 (by kernel_rfl) (fun x => by kernel_rfl)
/- (*jobshell/util.engine).problem -/
def util_engine_problem (F : Nat)  (a0 : List UInt8) (a1 : Int) (a2 : TUtil) (a3 : Twords) (a4 : TAinti648) (a5 : List Int) : Option (TReq × Bool × TUtil × Twords × TAinti648 × (List Int)) :=
 (util_engine_fail F a0 a1 19 a2 a3 (a4.1, (a4.2.1, (a4.2.2.1, (w64 (a4.2.2.2.1 + 1), a4.2.2.2.2)))) a5).bind fun x1 =>
 some ((TReq.mk 0 0 0 0 0 0 0 0 [] [] [] []), false, x1.1, x1.2.1, x1.2.2.1, x1.2.2.2)
def util_engine_problem_s : Shp := ⟨75, [.one (.ptr 0 0), .one (.dat .str), .one (.dat (.int .i64))], [(bt0)], [(3, 1)], ⟨.tup [.dat (.ext 3), .dat .bool], [some (bt0)], [none], []⟩, none, []⟩
def util_engine_problem_p : Plan := .seq [] none (.leaf) (.seq [] none (.draw [⟨true, 9, none⟩, ⟨false, 1, none⟩]) (.leaf))
def util_engine_problem_c (F : Nat) : Ctr E := ⟨util_engine_problem_s, fun (x : (List UInt8) × Int × TUtil × Twords × TAinti648 × (List Int)) => util_engine_problem F x.1 x.2.1 x.2.2.1 x.2.2.2.1 x.2.2.2.2.1 x.2.2.2.2.2⟩
theorem util_engine_problem_ok (F : Nat) : (util_engine_problem_c F).Ok Tryz.prog := Ctr.ok_of (X := ⟨Tryz.prog, tyT, [util_engine_fail_c F], [], none⟩) (F := F) ⟨E_ok, okC (util_engine_fail_ok F) (okN), mixed, goN, rvN⟩ (pl := util_engine_problem_p) Tryz.func75 (by kernel_rfl) (fun x => by kernel_rfl)
/- (*jobshell/util.engine).second -/
def util_engine_second (F : Nat)  (a0 : List UInt8) (a1 : TAns) (a2 : TUtil) (a3 : Twords) (a4 : TAinti648) (a5 : List Int) : Option (TReq × Bool × TUtil × Twords × TAinti648 × (List Int)) :=
 jj (σ := TAns) (R := TReq × Bool × TUtil × Twords × TAinti648 × (List Int)) (cond (a2.fName == ([108, 115] : List UInt8))
 (none)
 (cond (a2.fName == ([114, 109] : List UInt8))
 ((cond (a1.fErr == 8)
 ((util_words_has F a3 102).bind fun x3 =>
 some x3)
 (some false) : Option Bool).bind fun x2 =>
 cond x2
 ((util_engine_move F 22 a2 a3 a4 a5).bind fun x4 =>
 some (.inr (x4.1, x4.2.1, x4.2.2.1, x4.2.2.2.1, x4.2.2.2.2.1, x4.2.2.2.2.2)))
 ((cond (a1.fErr == 0)
 (some a1.fDir)
 (some false) : Option Bool).bind fun x5 =>
 cond x5
 (some (.inl ({ a1 with fErr := 17 })))
 (some (.inl a1))))
 (cond (a2.fName == ([114, 109, 100, 105, 114] : List UInt8))
 ((cond (a1.fErr == 0)
 (some (!a1.fDir))
 (some false) : Option Bool).bind fun x6 =>
 cond x6
 (some (.inl ({ a1 with fErr := 18 })))
 (some (.inl a1)))
 (some (.inl a1))))) fun x1 =>
 cond (x1.fErr != 0)
 ((util_engine_problem F a0 x1.fErr a2 a3 a4 a5).bind fun x7 =>
 some (x7.1, x7.2.1, x7.2.2.1, x7.2.2.2.1, x7.2.2.2.2.1, x7.2.2.2.2.2))
 (cond (a2.fName == ([116, 111, 117, 99, 104] : List UInt8))
 ((util_engine_ask F 22 (TReq.mk 4 x1.fFd 0 0 0 0 0 0 [] [] [] []) a2 a3 a4 a5).bind fun x8 =>
 some (x8.1, x8.2.1, x8.2.2.1, x8.2.2.2.1, x8.2.2.2.2.1, x8.2.2.2.2.2))
 ((util_engine_ask F 21 (TReq.mk 18 0 0 0 0 0 0 0 a0 [] [] []) a2 a3 a4 a5).bind fun x9 =>
 some (x9.1, x9.2.1, x9.2.2.1, x9.2.2.2.1, x9.2.2.2.2.1, x9.2.2.2.2.2)))
def util_engine_second_s : Shp := ⟨74, [.one (.ptr 0 0), .one (.dat .str), .one (.dat (.ext 1))], [(bt0)], [(3, 1)], ⟨.tup [.dat (.ext 3), .dat .bool], [some (bt0)], [none], []⟩, none, []⟩
def util_engine_second_p : Plan := .seq [] none (.leaf) (.seq [] (some (⟨[], [none, some (.cells 50 [.pk (.ext 1)]), none], [none], []⟩, true)) (.seq [] none (.leaf) (.seq [] none (.leaf) (.cond (.leaf) (.seq [] none (.leaf) (.cond (.seq [] none (.seq [] none (.region [(10, ⟨[(32, .one (.dat .bool))], [none, none, none], [none], []⟩, false)]) (.leaf)) (.seq [] none (.region [(7, ⟨[(43, .one (.dat .bool))], [none, none, none], [none], []⟩, false)]) (.leaf))) (.seq [] none (.leaf) (.cond (.seq [] none (.region [(8, ⟨[(54, .one (.dat .bool))], [none, none, none], [none], []⟩, false)]) (.leaf)) (.leaf)))))))) (.leaf))
def util_engine_second_c (F : Nat) : Ctr E := ⟨util_engine_second_s, fun (x : (List UInt8) × TAns × TUtil × Twords × TAinti648 × (List Int)) => util_engine_second F x.1 x.2.1 x.2.2.1 x.2.2.2.1 x.2.2.2.2.1 x.2.2.2.2.2⟩
theorem util_engine_second_ok (F : Nat) : (util_engine_second_c F).Ok Tryz.prog := Ctr.ok_of (X := ⟨Tryz.prog, tyT, [absurd114_c F, util_words_has_c F, util_engine_move_c F, util_engine_problem_c F, util_engine_ask_c F], [], none⟩) (F := F) ⟨E_ok, okC (absurd114_ok F) (okC (util_words_has_ok F) (okC (util_engine_move_ok F) (okC (util_engine_problem_ok F) (okC (util_engine_ask_ok F) (okN))))), mixed, goN, rvN⟩ (pl := util_engine_second_p) Tryz.func74 (by kernel_rfl) (fun x => by kernel_rfl)
/- (*jobshell/util.engine).file -/
def util_engine_file (F : Nat)  (a0 : TAns) (a1 : TUtil) (a2 : Twords) (a3 : TAinti648) (a4 : List Int) : Option (TReq × Bool × TUtil × Twords × TAinti648 × (List Int)) :=
 (util_engine_items F a1 a2 a3 a4).bind fun x1 =>
 (util_element F x1 a3.2.2.2.1).bind fun x2 =>
 jj (σ := Unit) (R := TReq × Bool × TUtil × Twords × TAinti648 × (List Int)) (cond (a1.fState == 19)
 (cond (decide ((x1.length : Int) ≤ a3.2.2.2.1))
 ((util_engine_move F 3 a1 a2 a3 a4).bind fun x4 =>
 some (.inr (x4.1, x4.2.1, x4.2.2.1, x4.2.2.2.1, x4.2.2.2.2.1, x4.2.2.2.2.2)))
 ((util_engine_first F x2 a1 a2 a3 a4).bind fun x5 =>
 some (.inr (x5.1, x5.2.1, x5.2.2.1, x5.2.2.2.1, x5.2.2.2.2.1, x5.2.2.2.2.2))))
 (cond (a1.fState == 20)
 ((util_engine_second F x2 a0 a1 a2 a3 a4).bind fun x6 =>
 some (.inr (x6.1, x6.2.1, x6.2.2.1, x6.2.2.2.1, x6.2.2.2.2.1, x6.2.2.2.2.2)))
 (cond (a1.fState == 21)
 (cond (a0.fErr != 0)
 ((util_engine_problem F x2 a0.fErr a1 a2 a3 a4).bind fun x7 =>
 some (.inr (x7.1, x7.2.1, x7.2.2.1, x7.2.2.2.1, x7.2.2.2.2.1, x7.2.2.2.2.2)))
 (some (.inl ())))
 (some (.inl ()))))) fun _ =>
 (util_engine_move F 19 a1 a2 (a3.1, (a3.2.1, (a3.2.2.1, (w64 (a3.2.2.2.1 + 1), a3.2.2.2.2)))) a4).bind fun x8 =>
 some (x8.1, x8.2.1, x8.2.2.1, x8.2.2.2.1, x8.2.2.2.2.1, x8.2.2.2.2.2)
def util_engine_file_s : Shp := ⟨41, [.one (.ptr 0 0), .one (.dat (.ext 1))], [(bt0)], [(3, 1)], ⟨.tup [.dat (.ext 3), .dat .bool], [some (bt0)], [none], []⟩, none, []⟩
def util_engine_file_p : Plan := .seq [] none (.leaf) (.seq [] none (.drawP [0] [] [⟨[(0, true), (2, true), (3, true), (4, true), (5, true), (6, true), (1, false), (7, false), (8, false)], none⟩]) (.seq [] none (.leaf) (.seq [] (some (⟨[], [none, none, none], [none], []⟩, true)) (.leaf) (.seq [] none (.draw [⟨true, 9, none⟩, ⟨false, 1, none⟩]) (.leaf)))))
def util_engine_file_c (F : Nat) : Ctr E := ⟨util_engine_file_s, fun (x : TAns × TUtil × Twords × TAinti648 × (List Int)) => util_engine_file F x.1 x.2.1 x.2.2.1 x.2.2.2.1 x.2.2.2.2⟩
theorem util_engine_file_ok (F : Nat) : (util_engine_file_c F).Ok Tryz.prog := Ctr.ok_of (X := ⟨Tryz.prog, tyT, [util_engine_items_c F, util_element_c F, util_engine_move_c F, util_engine_first_c F, util_engine_second_c F, util_engine_problem_c F], [], none⟩) (F := F) ⟨E_ok, okC (util_engine_items_ok F) (okC (util_element_ok F) (okC (util_engine_move_ok F) (okC (util_engine_first_ok F) (okC (util_engine_second_ok F) (okC (util_engine_problem_ok F) (okN)))))), mixed, goN, rvN⟩ (pl := util_engine_file_p) Tryz.func41 (by kernel_rfl) (fun x => by kernel_rfl)
/- (*jobshell/util.engine).advance -/
def util_engine_advance (F : Nat)  (a0 : TAns) (a1 : TUtil) (a2 : Twords) (a3 : TAinti648) (a4 : List Int) : Option (TReq × Bool × TUtil × Twords × TAinti648 × (List Int)) :=
 cond (a1.fState == 0)
 ((util_engine_begin F a1 a2 a3 a4).bind fun x1 =>
 some (x1.1, x1.2.1, x1.2.2.1, x1.2.2.2.1, x1.2.2.2.2.1, x1.2.2.2.2.2))
 (cond (a1.fState == 1)
 ((util_engine_ask F 2 (TReq.mk 2 a3.2.1 0 0 0 0 0 0 [] a1.fOut [] []) a1 a2 a3 a4).bind fun x2 =>
 some (x2.1, x2.2.1, x2.2.2.1, x2.2.2.2.1, x2.2.2.2.2.1, x2.2.2.2.2.2))
 (cond (a1.fState == 2)
 ((util_engine_written F a0 a1 a2 a3 a4).bind fun x3 =>
 some ((TReq.mk 0 0 0 0 0 0 0 0 [] [] [] []), false, x3.1, x3.2.1, x3.2.2.1, x3.2.2.2))
 (cond (a1.fState == 3)
 ((util_engine_exit F a3.2.2.1 a1 a2 a3 a4).bind fun x4 =>
 some ((TReq.mk 0 0 0 0 0 0 0 0 [] [] [] []), false, x4.1, x4.2.1, x4.2.2.1, x4.2.2.2))
 (cond (a1.fState == 5)
 ((util_engine_write F 2 a1.fBuf 4 a1 a2 a3 a4).bind fun x5 =>
 some ((TReq.mk 0 0 0 0 0 0 0 0 [] [] [] []), false, x5.1, x5.2.1, x5.2.2.1, x5.2.2.2))
 (cond (a1.fState == 6)
 ((util_engine_write F 1 a1.fBuf 6 a1 a2 a3 a4).bind fun x6 =>
 some ((TReq.mk 0 0 0 0 0 0 0 0 [] [] [] []), false, x6.1, x6.2.1, x6.2.2.1, x6.2.2.2))
 (cond (a1.fState == 7)
 ((util_element F a2.foperands 0).bind fun x7 =>
 (util_engine_result F x7 a0.fErr a1 a2 a3 a4).bind fun x8 =>
 some ((TReq.mk 0 0 0 0 0 0 0 0 [] [] [] []), false, x8.1, x8.2.1, x8.2.2.1, x8.2.2.2))
 ((cond (a1.fState == 8)
 (some (a1.fState == 8))
 (some (a1.fState == 9)) : Option Bool).bind fun x9 =>
 cond x9
 (none)
 ((cond (a1.fState == 10)
 (some (a1.fState == 10))
 (cond (a1.fState == 11)
 (some (a1.fState == 11))
 (cond (a1.fState == 12)
 (some (a1.fState == 12))
 (cond (a1.fState == 13)
 (some (a1.fState == 13))
 (cond (a1.fState == 14)
 (some (a1.fState == 14))
 (cond (a1.fState == 15)
 (some (a1.fState == 15))
 (cond (a1.fState == 16)
 (some (a1.fState == 16))
 (cond (a1.fState == 17)
 (some (a1.fState == 17))
 (some (a1.fState == 18))))))))) : Option Bool).bind fun x10 =>
 cond x10
 ((util_engine_stream F a0 a1 a2 a3 a4).bind fun x11 =>
 some (x11.1, x11.2.1, x11.2.2.1, x11.2.2.2.1, x11.2.2.2.2.1, x11.2.2.2.2.2))
 ((cond (a1.fState == 19)
 (some (a1.fState == 19))
 (cond (a1.fState == 20)
 (some (a1.fState == 20))
 (cond (a1.fState == 21)
 (some (a1.fState == 21))
 (some (a1.fState == 22)))) : Option Bool).bind fun x12 =>
 cond x12
 ((util_engine_file F a0 a1 a2 a3 a4).bind fun x13 =>
 some (x13.1, x13.2.1, x13.2.2.1, x13.2.2.2.1, x13.2.2.2.2.1, x13.2.2.2.2.2))
 ((cond (a1.fState == 23)
 (some (a1.fState == 23))
 (cond (a1.fState == 24)
 (some (a1.fState == 24))
 (cond (a1.fState == 25)
 (some (a1.fState == 25))
 (cond (a1.fState == 26)
 (some (a1.fState == 26))
 (cond (a1.fState == 27)
 (some (a1.fState == 27))
 (cond (a1.fState == 28)
 (some (a1.fState == 28))
 (some (a1.fState == 29))))))) : Option Bool).bind fun x14 =>
 cond x14
 (none)
 (some ((TReq.mk 9 0 0 0 0 0 a1.fN 0 [] [] [] []), true, a1, a2, a3, a4))))))))))))
def util_engine_advance_s : Shp := ⟨26, [.one (.ptr 0 0), .one (.dat (.ext 1))], [(bt0)], [(3, 1)], ⟨.tup [.dat (.ext 3), .dat .bool], [some (bt0)], [none], []⟩, none, []⟩
def util_engine_advance_p : Plan := .seq [] none (.leaf) (.seq [] none (.seq [] none (.leaf) (.seq [] none (.leaf) (.cond (.leaf) (.seq [] none (.leaf) (.cond (.seq [] none (.draw [⟨true, 12, none⟩, ⟨false, 1, none⟩, ⟨true, 2, none⟩, ⟨false, 2, none⟩]) (.leaf)) (.seq [] none (.leaf) (.cond (.leaf) (.seq [] none (.leaf) (.cond (.leaf) (.seq [] none (.leaf) (.cond (.leaf) (.seq [] none (.leaf) (.cond (.leaf) (.seq [] none (.leaf) (.cond (.drawP [0, 1] [9] [⟨[(0, true), (1, true), (2, true), (3, true), (4, true), (5, true), (7, true), (8, true), (6, false), (9, false)], none⟩]) (.seq [] (some (⟨[(84, .one (.dat .bool))], [none, none, none], [none], []⟩, false)) (.leaf) (.cond (.leaf) (.seq [] (some (⟨[(92, .one (.dat .bool))], [none, none, none], [none], []⟩, false)) (.leaf) (.cond (.leaf) (.seq [] (some (⟨[(107, .one (.dat .bool))], [none, none, none], [none], []⟩, false)) (.leaf) (.cond (.leaf) (.seq [] (some (⟨[(117, .one (.dat .bool))], [none, none, none], [none], []⟩, false)) (.leaf) (.leaf))))))))))))))))))))))) (.leaf))
def util_engine_advance_c (F : Nat) : Ctr E := ⟨util_engine_advance_s, fun (x : TAns × TUtil × Twords × TAinti648 × (List Int)) => util_engine_advance F x.1 x.2.1 x.2.2.1 x.2.2.2.1 x.2.2.2.2⟩
theorem util_engine_advance_ok (F : Nat) : (util_engine_advance_c F).Ok Tryz.prog := Ctr.ok_of (X := ⟨Tryz.prog, tyT, [util_engine_begin_c F, util_engine_ask_c F, util_engine_written_c F, util_engine_exit_c F, util_engine_write_c F, util_element_c F, util_engine_result_c F, absurd39_c F, util_engine_stream_c F, util_engine_file_c F, absurd42_c F], [], none⟩) (F := F) ⟨E_ok, okC (util_engine_begin_ok F) (okC (util_engine_ask_ok F) (okC (util_engine_written_ok F) (okC (util_engine_exit_ok F) (okC (util_engine_write_ok F) (okC (util_element_ok F) (okC (util_engine_result_ok F) (okC (absurd39_ok F) (okC (util_engine_stream_ok F) (okC (util_engine_file_ok F) (okC (absurd42_ok F) (okN))))))))))), mixed, goN, rvN⟩ (pl := util_engine_advance_p) Tryz.func26 (by kernel_rfl) (fun x => by kernel_rfl)
/- slices.Clone[[]int,int] -/
def slices_Clone_1 (F : Nat)  (a0 : TUtil) (a1 : Twords) (a2 : TAinti648) (a3 : List Int) : Option (List Int) :=
 rq ((decide (([] : List Int).length + ([a2.1, a2.2.1, a2.2.2.1, a2.2.2.2.1, a2.2.2.2.2.1, a2.2.2.2.2.2.1, a2.2.2.2.2.2.2.1, a2.2.2.2.2.2.2.2.1] : List Int).length ≤ 9223372036854775807)) && (decide ((([] : List Int).length + ([a2.1, a2.2.1, a2.2.2.1, a2.2.2.2.1, a2.2.2.2.2.1, a2.2.2.2.2.2.1, a2.2.2.2.2.2.2.1, a2.2.2.2.2.2.2.2.1] : List Int).length) * 8 ≤ 140737488355328))) (some (([] : List Int) ++ ([a2.1, a2.2.1, a2.2.2.1, a2.2.2.2.1, a2.2.2.2.2.1, a2.2.2.2.2.2.1, a2.2.2.2.2.2.2.1, a2.2.2.2.2.2.2.2.1] : List Int)))
def slices_Clone_1_s : Shp := ⟨43, [.one (.bsl 0 12 8)], [(bt0)], [(3, 1)], ⟨.one (.gsl 2 (.int .i64)), [none], [none, some (3, 1), some (3, 1)], []⟩, none, []⟩
def slices_Clone_1_p : Plan := .seq [] none (.leaf) (.seq [.slot 2 3 (.int .i64)] none (.leaf) (.leaf))
def slices_Clone_1_c (F : Nat) : Ctr E := ⟨slices_Clone_1_s, fun (x : TUtil × Twords × TAinti648 × (List Int)) => slices_Clone_1 F x.1 x.2.1 x.2.2.1 x.2.2.2⟩
theorem slices_Clone_1_ok (F : Nat) : (slices_Clone_1_c F).Ok Tryz.prog := Ctr.ok_of (X := ⟨Tryz.prog, tyT, [], [], none⟩) (F := F) ⟨E_ok, okN, mixed, goN, rvN⟩ (pl := slices_Clone_1_p) Tryz.func43 (by kernel_rfl) (fun x => by kernel_rfl)
/- (*jobshell/util.engine).store -/
def util_engine_store (F : Nat)  (a0 : TUtil) (a1 : Twords) (a2 : TAinti648) (a3 : List Int) : Option TUtil :=
 (cloneF F a0.fArgs).bind fun x1 =>
 (cloneF F a0.fEnv).bind fun x2 =>
 (slices_Clone_1 F a0 a1 a2 a3).bind fun x3 =>
 rq ((decide (x3.length + a3.length ≤ 9223372036854775807)) && (decide ((x3.length + a3.length) * 8 ≤ 140737488355328))) (loopF (σ := Int × (List UInt8) × (List (List UInt8)) × (List (List UInt8)) × Int × Int × (List UInt8) × (List (List UInt8)) × (List UInt8)) (R := TUtil) (fun rc5 x4 =>
 cond (decide (x4.1 < ((x3 ++ a3).length : Int)))
 (rq ((decide (0 ≤ x4.1)) && (decide (x4.1 < ((x3 ++ a3).length : Int)))) ((itoaF F ((x3 ++ a3).getD (Int.toNat x4.1) 0)).bind fun x6 =>
 rq ((decide (x4.2.2.2.2.2.2.2.1.length + ([x6] : List (List UInt8)).length ≤ 9223372036854775807)) && (decide ((x4.2.2.2.2.2.2.2.1.length + ([x6] : List (List UInt8)).length) * 16 ≤ 140737488355328))) (rc5 (w64 (x4.1 + 1), x4.2.1, x4.2.2.1, x4.2.2.2.1, x4.2.2.2.2.1, x4.2.2.2.2.2.1, x4.2.2.2.2.2.2.1, x4.2.2.2.2.2.2.2.1 ++ ([x6] : List (List UInt8)), x4.2.2.2.2.2.2.2.2))))
 (some (TUtil.mk x4.2.1 x4.2.2.1 x4.2.2.2.1 x4.2.2.2.2.1 x4.2.2.2.2.2.1 x4.2.2.2.2.2.2.1 x4.2.2.2.2.2.2.2.1 x4.2.2.2.2.2.2.2.2))) F (0, a0.fName, x1, x2, a0.fState, a0.fN, a0.fBuf, ([] : List (List UInt8)), a0.fOut))
def util_engine_store_s : Shp := ⟨27, [.one (.ptr 0 0)], [(bt0)], [(3, 1)], ⟨.one (.dat (.ext 0)), [none], [none], []⟩, none, []⟩
def util_engine_store_p : Plan := .seq [] none (.leaf) (.seq [] none (.leaf) (.seq [] none (.drawP [2] [7, 8, 9] [⟨[(0, true), (1, true), (3, true), (4, true), (2, false), (6, true), (5, false), (7, false), (8, false), (9, false)], none⟩]) (.seq [] none (.leaf) (.seq [.cell 2 6 9 .str] none (.seq [] none (.drawP [0] [] [⟨[(0, true), (1, true), (2, true), (3, true), (5, true), (6, true), (7, true), (8, true), (11, true), (4, false), (9, false), (10, false)], none⟩]) (.loop [] ⟨[(30, .one (.dat (.int .i64)))], [none, none, some (.cells 26 [.dat .str, .dat (.lst .str), .dat (.lst .str), .dat (.int .i64), .dat (.int .i64), .dat .str, .gsl 1 .str, .dat .str])], [none, some (9, 1), none, none], []⟩ (.seq [] none (.leaf) (.seq [] none (.leaf) (.seq [] none (.seq [] none (.leaf) (.drawP [2] [7] [⟨[(0, true), (1, true), (2, true), (3, false), (4, false), (5, false), (6, false), (7, false)], none⟩])) (.leaf)))))) (.leaf)))))
def util_engine_store_c (F : Nat) : Ctr E := ⟨util_engine_store_s, fun (x : TUtil × Twords × TAinti648 × (List Int)) => util_engine_store F x.1 x.2.1 x.2.2.1 x.2.2.2⟩
theorem util_engine_store_ok (F : Nat) : (util_engine_store_c F).Ok Tryz.prog := Ctr.ok_of (X := ⟨Tryz.prog, tyT, [slicesClone_c F, slices_Clone_1_c F, strconvItoa_c F], [], none⟩) (F := F) ⟨E_ok, okC (slicesClone_ok F) (okC (slices_Clone_1_ok F) (okC (strconvItoa_ok F) (okN))), mixed, goN, rvN⟩ (pl := util_engine_store_p) Tryz.func27 (by kernel_rfl) (fun x => by kernel_rfl)
/- jobshell/util.Step -/
def util_Step (F : Nat)  (a0 : TUtil) (a1 : TAns) : Option (TUtil × TReq) :=
 (util_load F a0).bind fun x1 =>
 loopF (σ := Int × TUtil × Twords × TAinti648 × (List Int)) (R := TUtil × TReq) (fun rc3 x2 =>
 cond (decide (x2.1 < 100))
 ((util_engine_advance F a1 x2.2.1 x2.2.2.1 x2.2.2.2.1 x2.2.2.2.2).bind fun x4 =>
 cond x4.2.1
 ((util_engine_store F x4.2.2.1 x4.2.2.2.1 x4.2.2.2.2.1 x4.2.2.2.2.2).bind fun x5 =>
 some (x5, x4.1))
 (rc3 (w64 (x2.1 + 1), x4.2.2.1, x4.2.2.2.1, x4.2.2.2.2.1, x4.2.2.2.2.2)))
 ((util_engine_exit F 1 x2.2.1 x2.2.2.1 x2.2.2.2.1 x2.2.2.2.2).bind fun x6 =>
 (util_engine_store F x6.1 x6.2.1 x6.2.2.1 x6.2.2.2).bind fun x7 =>
 some (x7, (TReq.mk 9 0 0 0 0 0 x6.1.fN 0 [] [] [] [])))) F (0, x1.2.1, x1.2.2.1, x1.2.2.2.1, x1.2.2.2.2)
def util_Step_s : Shp := ⟨21, [.one (.dat (.ext 0)), .one (.dat (.ext 1))], [], [], ⟨.tup [.dat (.ext 0), .dat (.ext 3)], [], [], []⟩, none, []⟩
def util_Step_p : Plan := .seq [] none (.leaf) (.seq [] none (.leaf) (.seq [] none (.seq [] none (.leaf) (.loop [] ⟨[(11, .one (.dat (.int .i64)))], [none, none, none, none, none, some (bt0)], [none], []⟩ (.seq [] none (.leaf) (.seq [] none (.leaf) (.seq [] none (.seq [] none (.leaf) (.seq [] none (.leaf) (.cond (.seq [] none (.drawP [6] [] [⟨[(0, true), (2, true), (1, false), (3, false), (4, false)], none⟩]) (.leaf)) (.leaf)))) (.leaf)))))) (.seq [] none (.leaf) (.seq [] none (.drawP [5] [] [⟨[(0, true), (2, true), (3, true), (4, true), (5, true), (6, true), (7, true), (1, false), (8, false), (9, false)], none⟩]) (.leaf)))))
def util_Step_c (F : Nat) : Ctr E := ⟨util_Step_s, fun (x : TUtil × TAns) => util_Step F x.1 x.2⟩
theorem util_Step_ok (F : Nat) : (util_Step_c F).Ok Tryz.prog := Ctr.ok_of (X := ⟨Tryz.prog, tyT, [util_load_c F, util_engine_advance_c F, util_engine_store_c F, util_engine_exit_c F], [], none⟩) (F := F) ⟨E_ok, okC (util_load_ok F) (okC (util_engine_advance_ok F) (okC (util_engine_store_ok F) (okC (util_engine_exit_ok F) (okN)))), mixed, goN, rvN⟩ (pl := util_Step_p) Tryz.func21 (by kernel_rfl) (fun x => by kernel_rfl)
/- jobshell/jobshelllaw31.awake -/
def law31_awake (F : Nat)   : Option Bool :=
 (util_Start F ([([99, 97, 116] : List UInt8)] : List (List UInt8)) []).bind fun x1 =>
 (util_Step F x1.1 (TAns.mk 0 false 0 0 0 0 0 [] [] false [])).bind fun x2 =>
 (util_Step F x2.1 (TAns.mk 0 false 2 0 0 0 0 ([97, 98] : List UInt8) [] false [])).bind fun x3 =>
 (util_Step F x3.1 (TAns.mk 0 false 1 0 0 0 0 [] [] false [])).bind fun x4 =>
 (util_Step F x4.1 (TAns.mk 0 false 1 0 0 0 0 [] [] false [])).bind fun x5 =>
 (util_Step F x5.1 (TAns.mk 0 false 0 0 0 0 0 [] [] false [])).bind fun x6 =>
 (util_Start F ([([114, 109] : List UInt8), ([120] : List UInt8)] : List (List UInt8)) []).bind fun x7 =>
 (util_Step F x7.1 (TAns.mk 0 false 0 0 0 0 0 [] [] false [])).bind fun x8 =>
 (util_Step F x8.1 (TAns.mk 0 false 0 0 0 0 0 [] [] true [])).bind fun x9 =>
 (util_Step F x9.1 (TAns.mk 0 false 100 0 0 0 0 [] [] false [])).bind fun x10 =>
 (cond (!x1.2)
 (some true)
 (some (!x7.2)) : Option Bool).bind fun x11 =>
 (cond x11
 (some true)
 (some (x2.2.fOp != 1)) : Option Bool).bind fun x12 =>
 (cond x12
 (some true)
 (some (x2.2.fN != 32)) : Option Bool).bind fun x13 =>
 (cond x13
 (some true)
 (some (x3.2.fOp != 2)) : Option Bool).bind fun x14 =>
 (cond x14
 (some true)
 (some (x3.2.fFd != 1)) : Option Bool).bind fun x15 =>
 (cond x15
 (some true)
 (some (!(x3.2.fData == ([97, 98] : List UInt8)))) : Option Bool).bind fun x16 =>
 (cond x16
 (some true)
 (some (!(x4.2.fData == ([98] : List UInt8)))) : Option Bool).bind fun x17 =>
 (cond x17
 (some true)
 (some (x5.2.fOp != 1)) : Option Bool).bind fun x18 =>
 (cond x18
 (some true)
 (some (x6.2.fOp != 9)) : Option Bool).bind fun x19 =>
 (cond x19
 (some true)
 (some (x6.2.fN != 0)) : Option Bool).bind fun x20 =>
 cond x20
 (some false)
 ((cond (x8.2.fOp == 21)
 (some (x8.2.fPath == ([120] : List UInt8)))
 (some false) : Option Bool).bind fun x21 =>
 (cond x21
 (some (x9.2.fFd == 2))
 (some false) : Option Bool).bind fun x22 =>
 (cond x22
 (some (x9.2.fData == ([114, 109, 58, 32, 120, 58, 32, 105, 115, 32, 97, 32, 100, 105, 114, 101, 99, 116, 111, 114, 121, 10] : List UInt8)))
 (some false) : Option Bool).bind fun x23 =>
 (cond x23
 (some (x10.2.fOp == 9))
 (some false) : Option Bool).bind fun x24 =>
 (cond x24
 (some (x10.2.fN == 1))
 (some false) : Option Bool).bind fun x25 =>
 (cond x25
 ((util_Known F ([91] : List UInt8)).bind fun x27 =>
 some x27)
 (some false) : Option Bool).bind fun x26 =>
 (cond x26
 ((util_Known F ([99, 100] : List UInt8)).bind fun x29 =>
 some (!x29))
 (some false) : Option Bool).bind fun x28 =>
 some x28)
def law31_awake_s : Shp := ⟨10, [], [], [], ⟨.one (.dat .bool), [], [], []⟩, none, []⟩
def law31_awake_p : Plan := .seq [] none (.leaf) (.seq [] none (.leaf) (.seq [] none (.leaf) (.seq [] none (.leaf) (.seq [] none (.leaf) (.seq [] none (.leaf) (.seq [] none (.leaf) (.seq [] none (.leaf) (.seq [] none (.leaf) (.seq [] none (.leaf) (.seq [] none (.leaf) (.seq [] none (.seq [] none (.region [(6, ⟨[(78, .one (.dat .bool))], [none, none, none, none, none, none, none, none, none, none, none, none], [none, none], []⟩, false), (5, ⟨[(83, .one (.dat .bool))], [none, none, none, none, none, none, none, none, none, none, none, none], [none, none], []⟩, false), (5, ⟨[(88, .one (.dat .bool))], [none, none, none, none, none, none, none, none, none, none, none, none], [none, none], []⟩, false), (5, ⟨[(93, .one (.dat .bool))], [none, none, none, none, none, none, none, none, none, none, none, none], [none, none], []⟩, false), (5, ⟨[(98, .one (.dat .bool))], [none, none, none, none, none, none, none, none, none, none, none, none], [none, none], []⟩, false), (5, ⟨[(103, .one (.dat .bool))], [none, none, none, none, none, none, none, none, none, none, none, none], [none, none], []⟩, false), (5, ⟨[(108, .one (.dat .bool))], [none, none, none, none, none, none, none, none, none, none, none, none], [none, none], []⟩, false), (5, ⟨[(113, .one (.dat .bool))], [none, none, none, none, none, none, none, none, none, none, none, none], [none, none], []⟩, false), (5, ⟨[(118, .one (.dat .bool))], [none, none, none, none, none, none, none, none, none, none, none, none], [none, none], []⟩, false), (5, ⟨[(123, .one (.dat .bool))], [none, none, none, none, none, none, none, none, none, none, none, none], [none, none], []⟩, false)]) (.leaf)) (.seq [] none (.region [(8, ⟨[(131, .one (.dat .bool))], [none, none, none, none, none, none, none, none, none, none, none, none], [none, none], []⟩, false), (5, ⟨[(136, .one (.dat .bool))], [none, none, none, none, none, none, none, none, none, none, none, none], [none, none], []⟩, false), (5, ⟨[(141, .one (.dat .bool))], [none, none, none, none, none, none, none, none, none, none, none, none], [none, none], []⟩, false), (5, ⟨[(146, .one (.dat .bool))], [none, none, none, none, none, none, none, none, none, none, none, none], [none, none], []⟩, false), (5, ⟨[(151, .one (.dat .bool))], [none, none, none, none, none, none, none, none, none, none, none, none], [none, none], []⟩, false), (3, ⟨[(154, .one (.dat .bool))], [none, none, none, none, none, none, none, none, none, none, none, none], [none, none], []⟩, false), (4, ⟨[(158, .one (.dat .bool))], [none, none, none, none, none, none, none, none, none, none, none, none], [none, none], []⟩, false)]) (.leaf)))))))))))))
def law31_awake_c (F : Nat) : Ctr E := ⟨law31_awake_s, fun (x : Unit) => law31_awake F ⟩
theorem law31_awake_ok (F : Nat) : (law31_awake_c F).Ok Tryz.prog := Ctr.ok_of (X := ⟨Tryz.prog, tyT, [util_Start_c F, util_Step_c F, util_Known_c F], [], none⟩) (F := F) ⟨E_ok, okC (util_Start_ok F) (okC (util_Step_ok F) (okC (util_Known_ok F) (okN))), mixed, goN, rvN⟩ (pl := law31_awake_p) Tryz.func10 (by kernel_rfl) (fun x => by kernel_rfl)
/- jobshell/jobshelllaw31.play -/
def law31_play (F : Nat)  (a0 : List (List UInt8)) (a1 : List (List UInt8)) (a2 : List UInt8) (a3 : Int) : Option Tplayed :=
 (util_Start F a0 a1).bind fun x1 =>
 cond (!x1.2)
 (some (Tplayed.mk [] 0 false))
 (loopF (σ := (List UInt8) × Int × Tplayed × TUtil × TAns) (R := Tplayed) (fun rc3 x2 =>
 cond (decide (x2.2.1 < 12000))
 ((util_Step F x2.2.2.2.1 x2.2.2.2.2).bind fun x4 =>
 cond (x4.2.fOp == 9)
 (some (Tplayed.mk x2.2.2.1.fout x4.2.fN true))
 (cond (x4.2.fOp == 1)
 ((cond (decide (x4.2.fN < a3))
 (some x4.2.fN)
 (some a3) : Option Int).bind fun x5 =>
 ((cond (x4.2.fFd != 0)
 (some true)
 (some (decide (x5 < 0))) : Option Bool).bind fun x7 =>
 cond x7
 (some 0)
 (some x5) : Option Int).bind fun x6 =>
 (cond (decide ((x2.1.length : Int) < x6))
 (some (x2.1.length : Int))
 (some x6) : Option Int).bind fun x8 =>
 rq ((decide (0 ≤ x8)) && (decide (x8 ≤ (x2.1.length : Int)))) (rq ((decide (0 ≤ x8)) && ((decide (x8 ≤ (x2.1.length : Int))) && (decide ((x2.1.length : Int) ≤ (x2.1.length : Int))))) (rc3 (sl x2.1 x8 (x2.1.length : Int), w64 (x2.2.1 + 1), x2.2.2.1, x4.1, { (TAns.mk 0 false 0 0 0 0 0 [] [] false []) with fN := x8, fData := sl x2.1 0 x8 }))))
 (cond (x4.2.fOp == 2)
 ((cond (decide ((x4.2.fData.length : Int) < a3))
 (some (x4.2.fData.length : Int))
 (some a3) : Option Int).bind fun x9 =>
 cond (x4.2.fFd == 1)
 (rq ((decide (0 ≤ x9)) && (decide (x9 ≤ (x4.2.fData.length : Int)))) (rq (decide (x2.2.2.1.fout.length + (sl x4.2.fData 0 x9).length ≤ 9223372036854775807)) (rc3 (x2.1, w64 (x2.2.1 + 1), { x2.2.2.1 with fout := x2.2.2.1.fout ++ (sl x4.2.fData 0 x9) }, x4.1, { (TAns.mk 0 false 0 0 0 0 0 [] [] false []) with fN := x9 }))))
 (rc3 (x2.1, w64 (x2.2.1 + 1), x2.2.2.1, x4.1, { (TAns.mk 0 false 0 0 0 0 0 [] [] false []) with fN := x9 })))
 (cond (x4.2.fOp == 3)
 (rc3 (x2.1, w64 (x2.2.1 + 1), x2.2.2.1, x4.1, { (TAns.mk 0 false 0 0 0 0 0 [] [] false []) with fFd := x4.2.fN }))
 (rc3 (x2.1, w64 (x2.2.1 + 1), x2.2.2.1, x4.1, (TAns.mk 0 false 0 0 0 0 0 [] [] false [])))))))
 (some x2.2.2.1)) F (a2, 0, (Tplayed.mk [] 0 false), x1.1, (TAns.mk 0 false 0 0 0 0 0 [] [] false [])))
def law31_play_s : Shp := ⟨16, [.one (.dat (.lst .str)), .one (.dat (.lst .str)), .one (.dat .str), .one (.dat (.int .i64))], [], [], ⟨.one (.dat (.ext 4)), [], [], []⟩, none, []⟩
def law31_play_p : Plan := .seq [] none (.leaf) (.seq [] none (.leaf) (.seq [] none (.leaf) (.seq [] none (.leaf) (.seq [] none (.leaf) (.seq [] none (.seq [] none (.leaf) (.loop [] ⟨[(2, .one (.dat .str)), (13, .one (.dat (.int .i64)))], [none, some (.cells 33 [.pk (.ext 4)]), some (.cells 26 [.pk (.ext 0)]), some (.cells 50 [.pk (.ext 1)])], [], []⟩ (.seq [] none (.leaf) (.seq [] none (.seq [] none (.leaf) (.seq [] none (.leaf) (.seq [] none (.leaf) (.seq [] none (.leaf) (.seq [] none (.leaf) (.cond (.leaf) (.seq [] none (.leaf) (.cond (.seq [] (some (⟨[(16, .one (.dat (.int .i64)))], [none, none, none, none, none, none], [], []⟩, false)) (.leaf) (.seq [] (some (⟨[(16, .one (.dat (.int .i64)))], [none, none, none, none, none, none], [], []⟩, false)) (.seq [] none (.region [(7, ⟨[(62, .one (.dat .bool))], [none, none, none, none, none, none], [], []⟩, false)]) (.leaf)) (.seq [] (some (⟨[(16, .one (.dat (.int .i64)))], [none, none, none, none, none, none], [], []⟩, false)) (.leaf) (.leaf)))) (.seq [] none (.leaf) (.cond (.seq [] (some (⟨[(16, .one (.dat (.int .i64)))], [none, none, none, none, none, none], [], []⟩, false)) (.leaf) (.seq [] none (.leaf) (.seq [] none (.leaf) (.cond (.draw [⟨true, 8, none⟩, ⟨false, 1, none⟩]) (.leaf))))) (.leaf))))))))))) (.leaf))))) (.leaf))))))
def law31_play_c (F : Nat) : Ctr E := ⟨law31_play_s, fun (x : (List (List UInt8)) × (List (List UInt8)) × (List UInt8) × Int) => law31_play F x.1 x.2.1 x.2.2.1 x.2.2.2⟩
theorem law31_play_ok (F : Nat) : (law31_play_c F).Ok Tryz.prog := Ctr.ok_of (X := ⟨Tryz.prog, tyT, [util_Start_c F, util_Step_c F], [], none⟩) (F := F) ⟨E_ok, okC (util_Start_ok F) (okC (util_Step_ok F) (okN)), mixed, goN, rvN⟩ (pl := law31_play_p) Tryz.func16 (by kernel_rfl) (fun x => by kernel_rfl)
/- jobshell/jobshellref31.Lines -/
def ref31_Lines (F : Nat)  (a0 : List UInt8) : Option (List (List UInt8)) :=
 loopF (σ := (List (List UInt8)) × Int × Int) (R := List (List UInt8)) (fun rc2 x1 =>
 cond (decide (x1.2.2 < (a0.length : Int)))
 (rq ((decide (0 ≤ x1.2.2)) && (decide (x1.2.2 < (a0.length : Int)))) (cond (((a0.getD (Int.toNat x1.2.2) 0).toNat : Int) == 10)
 (rq ((decide (0 ≤ x1.2.1)) && ((decide (x1.2.1 ≤ x1.2.2)) && (decide (x1.2.2 ≤ (a0.length : Int))))) (rq ((decide (x1.1.length + ([sl a0 x1.2.1 x1.2.2] : List (List UInt8)).length ≤ 9223372036854775807)) && (decide ((x1.1.length + ([sl a0 x1.2.1 x1.2.2] : List (List UInt8)).length) * 16 ≤ 140737488355328))) (rc2 (x1.1 ++ ([sl a0 x1.2.1 x1.2.2] : List (List UInt8)), w64 (x1.2.2 + 1), w64 (x1.2.2 + 1)))))
 (rc2 (x1.1, x1.2.1, w64 (x1.2.2 + 1)))))
 (cond (decide (x1.2.1 < (a0.length : Int)))
 (rq ((decide (0 ≤ x1.2.1)) && ((decide (x1.2.1 ≤ (a0.length : Int))) && (decide ((a0.length : Int) ≤ (a0.length : Int))))) (rq ((decide (x1.1.length + ([sl a0 x1.2.1 (a0.length : Int)] : List (List UInt8)).length ≤ 9223372036854775807)) && (decide ((x1.1.length + ([sl a0 x1.2.1 (a0.length : Int)] : List (List UInt8)).length) * 16 ≤ 140737488355328))) (some (x1.1 ++ ([sl a0 x1.2.1 (a0.length : Int)] : List (List UInt8))))))
 (some x1.1))) F (([] : List (List UInt8)), 0, 0)
def ref31_Lines_s : Shp := ⟨19, [.one (.dat .str)], [], [], ⟨.one (.dat (.lst .str)), [], [], []⟩, none, []⟩
def ref31_Lines_p : Plan := .seq [] none (.leaf) (.seq [] none (.leaf) (.seq [.slot 3 9 .str] none (.leaf) (.seq [] none (.seq [] none (.leaf) (.loop [] ⟨[(3, .one (.gsl 0 .str)), (4, .one (.dat (.int .i64))), (5, .one (.dat (.int .i64)))], [], [some (9, 1)], []⟩ (.leaf))) (.leaf))))
def ref31_Lines_c (F : Nat) : Ctr E := ⟨ref31_Lines_s, fun (x : List UInt8) => ref31_Lines F x⟩
theorem ref31_Lines_ok (F : Nat) : (ref31_Lines_c F).Ok Tryz.prog := Ctr.ok_of (X := ⟨Tryz.prog, tyT, [], [], none⟩) (F := F) ⟨E_ok, okN, mixed, goN, rvN⟩ (pl := ref31_Lines_p) Tryz.func19 (by kernel_rfl) (fun x => by kernel_rfl)
/- jobshell/jobshelllaw31.feeds -/
def law31_feeds (F : Nat)  (a0 : List UInt8) : Option Int :=
 loopF (σ := Int × Int) (R := Int) (fun rc2 x1 =>
 cond (decide (x1.2 < (a0.length : Int)))
 (rq ((decide (0 ≤ x1.2)) && (decide (x1.2 < (a0.length : Int)))) (cond (((a0.getD (Int.toNat x1.2) 0).toNat : Int) == 10)
 (rc2 (w64 (x1.1 + 1), w64 (x1.2 + 1)))
 (rc2 (x1.1, w64 (x1.2 + 1)))))
 (some x1.1)) F (0, 0)
def law31_feeds_s : Shp := ⟨18, [.one (.dat .str)], [], [], ⟨.one (.dat (.int .i64)), [], [], []⟩, none, []⟩
def law31_feeds_p : Plan := .seq [] none (.leaf) (.seq [] none (.leaf) (.seq [] none (.seq [] none (.leaf) (.loop [] ⟨[(3, .one (.dat (.int .i64))), (4, .one (.dat (.int .i64)))], [], [], []⟩ (.leaf))) (.leaf)))
def law31_feeds_c (F : Nat) : Ctr E := ⟨law31_feeds_s, fun (x : List UInt8) => law31_feeds F x⟩
theorem law31_feeds_ok (F : Nat) : (law31_feeds_c F).Ok Tryz.prog := Ctr.ok_of (X := ⟨Tryz.prog, tyT, [], [], none⟩) (F := F) ⟨E_ok, okN, mixed, goN, rvN⟩ (pl := law31_feeds_p) Tryz.func18 (by kernel_rfl) (fun x => by kernel_rfl)
/- jobshell/jobshelllaw31.times -/
def law31_times (F : Nat)  (a0 : List (List UInt8)) (a1 : List UInt8) : Option Int :=
 loopF (σ := Int × Int) (R := Int) (fun rc2 x1 =>
 cond (decide (x1.2 < (a0.length : Int)))
 (rq ((decide (0 ≤ x1.2)) && (decide (x1.2 < (a0.length : Int)))) (cond ((a0.getD (Int.toNat x1.2) []) == a1)
 (rc2 (w64 (x1.1 + 1), w64 (x1.2 + 1)))
 (rc2 (x1.1, w64 (x1.2 + 1)))))
 (some x1.1)) F (0, 0)
def law31_times_s : Shp := ⟨20, [.one (.dat (.lst .str)), .one (.dat .str)], [], [], ⟨.one (.dat (.int .i64)), [], [], []⟩, none, []⟩
def law31_times_p : Plan := .seq [] none (.leaf) (.seq [] none (.leaf) (.seq [] none (.seq [] none (.leaf) (.loop [] ⟨[(5, .one (.dat (.int .i64))), (6, .one (.dat (.int .i64)))], [], [], []⟩ (.leaf))) (.leaf)))
def law31_times_c (F : Nat) : Ctr E := ⟨law31_times_s, fun (x : (List (List UInt8)) × (List UInt8)) => law31_times F x.1 x.2⟩
theorem law31_times_ok (F : Nat) : (law31_times_c F).Ok Tryz.prog := Ctr.ok_of (X := ⟨Tryz.prog, tyT, [], [], none⟩) (F := F) ⟨E_ok, okN, mixed, goN, rvN⟩ (pl := law31_times_p) Tryz.func20 (by kernel_rfl) (fun x => by kernel_rfl)
/- jobshell/jobshellref31.Texts -/
def ref31_Texts (F : Nat)  (a0 : List (List UInt8)) (a1 : List (List UInt8)) : Option Bool :=
 cond ((a0.length : Int) != (a1.length : Int))
 (some false)
 (loopF (σ := Int) (R := Bool) (fun rc2 x1 =>
 cond (decide (x1 < (a0.length : Int)))
 (rq ((decide (0 ≤ x1)) && (decide (x1 < (a0.length : Int)))) (rq ((decide (0 ≤ x1)) && (decide (x1 < (a1.length : Int)))) (cond (!((a0.getD (Int.toNat x1) []) == (a1.getD (Int.toNat x1) [])))
 (some false)
 (rc2 (w64 (x1 + 1))))))
 (some true)) F 0)
def ref31_Texts_s : Shp := ⟨15, [.one (.dat (.lst .str)), .one (.dat (.lst .str))], [], [], ⟨.one (.dat .bool), [], [], []⟩, none, []⟩
def ref31_Texts_p : Plan := .seq [] none (.leaf) (.seq [] none (.leaf) (.seq [] none (.seq [] none (.leaf) (.loop [] ⟨[(5, .one (.dat (.int .i64)))], [], [], []⟩ (.seq [] none (.leaf) (.seq [] none (.seq [] none (.draw [⟨true, 9, none⟩]) (.leaf)) (.leaf))))) (.leaf)))
def ref31_Texts_c (F : Nat) : Ctr E := ⟨ref31_Texts_s, fun (x : (List (List UInt8)) × (List (List UInt8))) => ref31_Texts F x.1 x.2⟩
theorem ref31_Texts_ok (F : Nat) : (ref31_Texts_c F).Ok Tryz.prog := Ctr.ok_of (X := ⟨Tryz.prog, tyT, [], [], none⟩) (F := F) ⟨E_ok, okN, mixed, goN, rvN⟩ (pl := ref31_Texts_p) Tryz.func15 (by kernel_rfl) (fun x => by kernel_rfl)
/- jobshell/jobshelllaw31.UtilSorts -/
def law31_UtilSorts (F : Nat)  (a0 : List UInt8) (a1 : Int) : Option Bool :=
 (cond (decide (300 < (a0.length : Int)))
 (some true)
 (some (decide (a1 < 1))) : Option Bool).bind fun x1 =>
 cond x1
 ((law31_awake 60).bind fun x2 =>
 some x2)
 ((law31_play F ([([115, 111, 114, 116] : List UInt8)] : List (List UInt8)) [] a0 a1).bind fun x3 =>
 (ref31_Lines F a0).bind fun x4 =>
 (ref31_Lines F x3.fout).bind fun x5 =>
 (cond (!x3.fended)
 (some true)
 (some (x3.fstatus != 0)) : Option Bool).bind fun x6 =>
 (cond x6
 (some true)
 (some ((x4.length : Int) != (x5.length : Int))) : Option Bool).bind fun x7 =>
 (cond x7
 (some true)
 ((law31_feeds F x3.fout).bind fun x9 =>
 some (x9 != (x5.length : Int))) : Option Bool).bind fun x8 =>
 cond x8
 (some false)
 (loopF (σ := Int) (R := Bool) (fun rc11 x10 =>
 cond (decide (x10 < (x5.length : Int)))
 ((rq ((decide (0 ≤ x10)) && (decide (x10 < (x5.length : Int)))) (rq ((decide (0 ≤ x10)) && (decide (x10 < (x5.length : Int)))) ((law31_times F x4 (x5.getD (Int.toNat x10) [])).bind fun x13 =>
 (law31_times F x5 (x5.getD (Int.toNat x10) [])).bind fun x14 =>
 cond (x13 != x14)
 (agree (some true) (some true))
 (cond (decide (0 < x10))
 (rq ((decide (0 ≤ x10)) && (decide (x10 < (x5.length : Int)))) (rq ((decide (0 ≤ w64 (x10 - 1))) && (decide (w64 (x10 - 1) < (x5.length : Int)))) (agree (some (Op.bytesLess (x5.getD (Int.toNat x10) []) (x5.getD (Int.toNat (w64 (x10 - 1))) []))) (some (Op.bytesLess (x5.getD (Int.toNat x10) []) (x5.getD (Int.toNat (w64 (x10 - 1))) []))))))
 (agree (some false) (some false))))) : Option Bool).bind fun x12 =>
 cond x12
 (some false)
 (rc11 (w64 (x10 + 1))))
 ((law31_play F ([([115, 111, 114, 116] : List UInt8), ([45, 114] : List UInt8)] : List (List UInt8)) [] a0 a1).bind fun x15 =>
 (ref31_Lines F x15.fout).bind fun x16 =>
 (law31_play F ([([115, 111, 114, 116] : List UInt8), ([45, 117] : List UInt8)] : List (List UInt8)) [] a0 a1).bind fun x17 =>
 (ref31_Lines F x17.fout).bind fun x18 =>
 cond ((x16.length : Int) != (x5.length : Int))
 (some false)
 (loopF (σ := Int) (R := Bool) (fun rc20 x19 =>
 cond (decide (x19 < (x5.length : Int)))
 (rq ((decide (0 ≤ w64 ((w64 ((x16.length : Int) - 1)) - x19))) && (decide (w64 ((w64 ((x16.length : Int) - 1)) - x19) < (x16.length : Int)))) (rq ((decide (0 ≤ x19)) && (decide (x19 < (x5.length : Int)))) (cond (!((x16.getD (Int.toNat (w64 ((w64 ((x16.length : Int) - 1)) - x19))) []) == (x5.getD (Int.toNat x19) [])))
 (some false)
 (rq ((decide (0 ≤ x19)) && (decide (x19 < (x5.length : Int)))) ((law31_times F x18 (x5.getD (Int.toNat x19) [])).bind fun x21 =>
 cond (x21 != 1)
 (some false)
 (rc20 (w64 (x19 + 1))))))))
 ((law31_play F ([([114, 101, 118] : List UInt8)] : List (List UInt8)) [] a0 a1).bind fun x22 =>
 (law31_play F ([([114, 101, 118] : List UInt8)] : List (List UInt8)) [] x22.fout a1).bind fun x23 =>
 (itoaF F (x4.length : Int)).bind fun x24 =>
 (law31_play F ([([116, 97, 105, 108] : List UInt8), ([45, 110] : List UInt8), x24] : List (List UInt8)) [] a0 a1).bind fun x25 =>
 (cond (decide ((x18.length : Int) ≤ (x5.length : Int)))
 ((ref31_Lines F x23.fout).bind fun x27 =>
 (ref31_Texts F x27 x4).bind fun x28 =>
 some x28)
 (some false) : Option Bool).bind fun x26 =>
 (cond x26
 ((ref31_Lines F x25.fout).bind fun x30 =>
 (ref31_Texts F x30 x4).bind fun x31 =>
 some x31)
 (some false) : Option Bool).bind fun x29 =>
 (cond x29
 ((law31_awake 60).bind fun x33 =>
 some x33)
 (some false) : Option Bool).bind fun x32 =>
 some x32)) F 0))) F 0))
def law31_UtilSorts_s : Shp := ⟨6, [.one (.dat .str), .one (.dat (.int .i64))], [], [], ⟨.one (.dat .bool), [], [], []⟩, none, []⟩
def law31_UtilSorts_p : Plan := .seq [] none (.leaf) (.seq [] none (.seq [] none (.region [(7, ⟨[(20, .one (.dat .bool))], [], [], []⟩, false)]) (.leaf)) (.seq [] none (.leaf) (.seq [] none (.drawP [0] [] [⟨[(0, true), (2, true), (3, true), (1, false), (4, false), (5, false), (6, false)], none⟩]) (.seq [] none (.seq [] none (.region [(8, ⟨[(38, .one (.dat .bool))], [none], [none], []⟩, false), (7, ⟨[(45, .one (.dat .bool))], [none], [none], []⟩, false), (8, ⟨[(53, .one (.dat .bool))], [none], [none], []⟩, false)]) (.leaf)) (.seq [] none (.seq [] none (.leaf) (.loop [] ⟨[(8, .one (.dat (.int .i64)))], [none], [none], []⟩ (.seq [] none (.leaf) (.seq [] none (.seq [] none (.drawF [] ⟨[(88, .one (.dat .bool))], [none], [none], []⟩ (.step 0 true (.step 1 true (.step 2 true (.step 3 true (.step 4 true (.step 6 true (.step 7 true (.step 8 true (.step 9 true (.step 10 true (.step 5 false (.step 11 false (.step 12 false (.step 13 false (.step 14 false (.step 15 false (.step 16 false (.step 17 true (.step 18 true (.step 19 true (.step 21 true (.step 22 true (.step 23 true (.step 24 true (.fork 20 (.step 25 false (.step 26 false (.step 27 false (.step 28 false .done)))) 25 (.step 20 false (.step 26 false (.step 27 false (.step 28 false .done)))))))))))))))))))))))))))))) (.leaf)) (.leaf))))) (.seq [] none (.leaf) (.seq [] none (.leaf) (.seq [] none (.leaf) (.seq [] none (.seq [] none (.leaf) (.loop [] ⟨[(11, .one (.dat (.int .i64)))], [none], [none, none, none], []⟩ (.seq [] none (.leaf) (.seq [] none (.seq [] none (.draw [⟨true, 19, none⟩, ⟨false, 3, none⟩]) (.leaf)) (.leaf))))) (.seq [] none (.leaf) (.seq [] none (.leaf) (.seq [] none (.region [(12, ⟨[(160, .one (.dat .bool))], [none, none, none], [none, none, none, none, none, none], []⟩, false), (7, ⟨[(167, .one (.dat .bool))], [none, none, none], [none, none, none, none, none, none], []⟩, false), (3, ⟨[(170, .one (.dat .bool))], [none, none, none], [none, none, none, none, none, none], []⟩, false)]) (.leaf)))))))))))))
def law31_UtilSorts_c (F : Nat) : Ctr E := ⟨law31_UtilSorts_s, fun (x : (List UInt8) × Int) => law31_UtilSorts F x.1 x.2⟩
theorem law31_UtilSorts_ok (F : Nat) : (law31_UtilSorts_c F).Ok Tryz.prog := Ctr.ok_of (X := ⟨Tryz.prog, tyT, [law31_awake_c 60, law31_play_c F, ref31_Lines_c F, law31_feeds_c F, law31_times_c F, strconvItoa_c F, ref31_Texts_c F], [], none⟩) (F := F) ⟨E_ok, okC (law31_awake_ok 60) (okC (law31_play_ok F) (okC (ref31_Lines_ok F) (okC (law31_feeds_ok F) (okC (law31_times_ok F) (okC (strconvItoa_ok F) (okC (ref31_Texts_ok F) (okN))))))), mixed, goN, rvN⟩ (pl := law31_UtilSorts_p) Tryz.func6 (by kernel_rfl) (fun x => by kernel_rfl)
end
end Go.Proofs.YteagcbkkonabbaaGreatDoor
