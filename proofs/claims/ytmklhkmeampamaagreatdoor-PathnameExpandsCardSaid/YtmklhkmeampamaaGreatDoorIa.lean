import Derived.Test.YtmklhkmeampamaaGreatDoorTy
namespace Go.Proofs.YtmklhkmeampamaaGreatDoor
open Go.RT
set_option linter.all false
set_option maxRecDepth 100000
def indexByteString := ibF
def indexByteString_c (F : Nat) : Ctr E := ibC E 137 F
theorem indexByteString_ok (F : Nat) : (indexByteString_c F).Ok Tryz.prog := ib_ok (fun args w => run_callFunc_extern Tryz.func137 (by kernel_rfl) (by kernel_rfl) (by kernel_rfl) (e := Extern.BytealgIndexByte.indexByte) (by kernel_rfl) args w) F
def absurd125_c (F : Nat) : Ctr E := ⟨⟨125, [.one (.dat .str)], [], [], ⟨.one (.any), [], [], []⟩, none, []⟩, fun _ => none⟩
theorem absurd125_ok (F : Nat) : (absurd125_c F).Ok Tryz.prog := fun x y h => nomatch (show none = some y from h)
def stringslite_IndexByte (F : Nat)  (a0 : List UInt8) (a1 : Int) : Option Int :=
 (indexByteString F a0 a1).bind fun x1 =>
 some x1
def stringslite_IndexByte_s : Shp := ⟨127, [.one (.dat .str), .one (.dat (.int .u8))], [], [], ⟨.one (.dat (.int .i64)), [], [], []⟩, none, []⟩
def stringslite_IndexByte_p : Plan := .leaf
def stringslite_IndexByte_c (F : Nat) : Ctr E := ⟨stringslite_IndexByte_s, fun (x : (List UInt8) × Int) => stringslite_IndexByte F x.1 x.2⟩
theorem stringslite_IndexByte_ok (F : Nat) : (stringslite_IndexByte_c F).Ok Tryz.prog := Ctr.ok_of (X := ⟨Tryz.prog, tyT, [indexByteString_c F], []⟩) (F := F) ⟨E_ok, okC (indexByteString_ok F) (okN), mixed, goN⟩ (pl := stringslite_IndexByte_p) Tryz.func127 (by kernel_rfl) (fun x => by kernel_rfl)
def strings_IndexByte (F : Nat)  (a0 : List UInt8) (a1 : Int) : Option Int :=
 (stringslite_IndexByte F a0 a1).bind fun x1 =>
 some x1
def strings_IndexByte_s : Shp := ⟨135, [.one (.dat .str), .one (.dat (.int .u8))], [], [], ⟨.one (.dat (.int .i64)), [], [], []⟩, none, []⟩
def strings_IndexByte_p : Plan := .leaf
def strings_IndexByte_c (F : Nat) : Ctr E := ⟨strings_IndexByte_s, fun (x : (List UInt8) × Int) => strings_IndexByte F x.1 x.2⟩
theorem strings_IndexByte_ok (F : Nat) : (strings_IndexByte_c F).Ok Tryz.prog := Ctr.ok_of (X := ⟨Tryz.prog, tyT, [stringslite_IndexByte_c F], []⟩) (F := F) ⟨E_ok, okC (stringslite_IndexByte_ok F) (okN), mixed, goN⟩ (pl := strings_IndexByte_p) Tryz.func135 (by kernel_rfl) (fun x => by kernel_rfl)
def utf8_ValidRune (F : Nat)  (a0 : Int) : Option Bool :=
 (cond (decide (0 ≤ a0))
 (some (decide (a0 < 55296)))
 (some false) : Option Bool).bind fun x1 =>
 cond x1
 (some true)
 ((cond (decide (57343 < a0))
 (some (decide (a0 ≤ 1114111)))
 (some false) : Option Bool).bind fun x2 =>
 cond x2
 (some true)
 (some false))
def utf8_ValidRune_s : Shp := ⟨136, [.one (.dat (.int .i32))], [], [], ⟨.one (.dat .bool), [], [], []⟩, none, []⟩
def utf8_ValidRune_p : Plan := .seq [] none (.leaf) (.seq [] none (.seq [] none (.region [(6, ⟨[(9, .one (.dat .bool))], [], [], []⟩, false)]) (.cond (.leaf) (.seq [] none (.region [(6, ⟨[(16, .one (.dat .bool))], [], [], []⟩, false)]) (.leaf)))) (.leaf))
def utf8_ValidRune_c (F : Nat) : Ctr E := ⟨utf8_ValidRune_s, fun (x : Int) => utf8_ValidRune F x⟩
theorem utf8_ValidRune_ok (F : Nat) : (utf8_ValidRune_c F).Ok Tryz.prog := Ctr.ok_of (X := ⟨Tryz.prog, tyT, [], []⟩) (F := F) ⟨E_ok, okN, mixed, goN⟩ (pl := utf8_ValidRune_p) Tryz.func136 (by kernel_rfl) (fun x => by kernel_rfl)
def strings_IndexRune (F : Nat)  (a0 : List UInt8) (a1 : Int) : Option Int :=
 (cond (decide (0 ≤ a1))
 (some (decide (a1 < 128)))
 (some false) : Option Bool).bind fun x1 =>
 cond x1
 ((strings_IndexByte F a0 (IntKind.wrap .u8 a1)).bind fun x2 =>
 some x2)
 (cond (a1 == 65533)
 (loopF (σ := (List UInt8) × Int) (R := Int) (fun rc4 x3 =>
 cond (Nat.blt (Int.toNat x3.2) x3.1.length)
 (cond (((dec x3.1 (Int.toNat x3.2)).1 : Int) == 65533)
 (some (((Int.toNat x3.2) : Nat) : Int))
 (rc4 (x3.1, ((((Int.toNat x3.2) + (dec x3.1 (Int.toNat x3.2)).2) : Nat) : Int))))
 (some (-1))) F (a0, ((0 : Nat) : Int)))
 ((utf8_ValidRune F a1).bind fun x5 =>
 cond (!x5)
 (some (-1))
 (loopF (σ := Int) (R := Int) (fun rc7 x6 =>
 cond (decide (x6 < (a0.length : Int)))
 (jj (σ := Int) (R := Int) (rq ((decide (0 ≤ x6)) && (decide (x6 < (a0.length : Int)))) (rq ((decide (0 ≤ w64 (((runeStr a1).length : Int) - 1))) && (decide (w64 (((runeStr a1).length : Int) - 1) < ((runeStr a1).length : Int)))) (cond (((a0.getD (Int.toNat x6) 0).toNat : Int) != (((runeStr a1).getD (Int.toNat (w64 (((runeStr a1).length : Int) - 1))) 0).toNat : Int))
 (rq ((decide (0 ≤ w64 (x6 + 1))) && ((decide (w64 (x6 + 1) ≤ (a0.length : Int))) && (decide ((a0.length : Int) ≤ (a0.length : Int))))) (rq ((decide (0 ≤ w64 (((runeStr a1).length : Int) - 1))) && (decide (w64 (((runeStr a1).length : Int) - 1) < ((runeStr a1).length : Int)))) ((strings_IndexByte F (sl a0 (w64 (x6 + 1)) (a0.length : Int)) (((runeStr a1).getD (Int.toNat (w64 (((runeStr a1).length : Int) - 1))) 0).toNat : Int)).bind fun x9 =>
 cond (decide (x9 < 0))
 (some (.inr (-1)))
 (some (.inl (w64 (x6 + (w64 (x9 + 1)))))))))
 (some (.inl x6))))) fun x8 =>
 loopF (σ := Int) (R := Int) (fun rc11 x10 =>
 cond (decide (x10 < ((runeStr a1).length : Int)))
 (rq ((decide (0 ≤ w64 (x8 - x10))) && (decide (w64 (x8 - x10) < (a0.length : Int)))) (rq ((decide (0 ≤ w64 ((w64 (((runeStr a1).length : Int) - 1)) - x10))) && (decide (w64 ((w64 (((runeStr a1).length : Int) - 1)) - x10) < ((runeStr a1).length : Int)))) (cond (((a0.getD (Int.toNat (w64 (x8 - x10))) 0).toNat : Int) != (((runeStr a1).getD (Int.toNat (w64 ((w64 (((runeStr a1).length : Int) - 1)) - x10))) 0).toNat : Int))
 (none)
 (rc11 (w64 (x10 + 1))))))
 (some (w64 (x8 - (w64 (((runeStr a1).length : Int) - 1)))))) F 1)
 (some (-1))) F (w64 (((runeStr a1).length : Int) - 1)))))
def strings_IndexRune_s : Shp := ⟨123, [.one (.dat .str), .one (.dat (.int .i32))], [], [], ⟨.one (.dat (.int .i64)), [], [], []⟩, none, []⟩
def strings_IndexRune_p : Plan := .seq [] none (.leaf) (.seq [] none (.region [(6, ⟨[(166, .one (.dat .bool))], [], [], []⟩, false)]) (.cond (.leaf) (.seq [] none (.leaf) (.cond (.seq [] none (.seq [] none (.leaf) (.loop [] ⟨[], [some (.iter)], [], []⟩ (.leaf))) (.leaf)) (.seq [] none (.leaf) (.cond (.leaf) (.seq [] none (.leaf) (.seq [] none (.leaf) (.seq [] none (.leaf) (.seq [] none (.leaf) (.seq [] none (.loop [] ⟨[(9, .one (.dat (.int .i64)))], [], [], []⟩ (.seq [] none (.leaf) (.seq [] (some (⟨[(9, .one (.dat (.int .i64)))], [], [], []⟩, true)) (.seq [] none (.draw [⟨true, 7, none⟩]) (.cond (.seq [] none (.draw [⟨true, 7, none⟩, ⟨false, 2, none⟩]) (.leaf)) (.leaf))) (.seq [] none (.seq [] none (.leaf) (.loop [] ⟨[(12, .one (.dat (.int .i64)))], [], [], []⟩ (.seq [] none (.leaf) (.seq [] none (.seq [] none (.draw [⟨true, 11, none⟩]) (.leaf)) (.leaf))))) (.leaf))))) (.leaf))))))))))))
def strings_IndexRune_c (F : Nat) : Ctr E := ⟨strings_IndexRune_s, fun (x : (List UInt8) × Int) => strings_IndexRune F x.1 x.2⟩
theorem strings_IndexRune_ok (F : Nat) : (strings_IndexRune_c F).Ok Tryz.prog := Ctr.ok_of (X := ⟨Tryz.prog, tyT, [strings_IndexByte_c F, utf8_ValidRune_c F], []⟩) (F := F) ⟨E_ok, okC (strings_IndexByte_ok F) (okC (utf8_ValidRune_ok F) (okN)), mixed, goN⟩ (pl := strings_IndexRune_p) Tryz.func123 (by kernel_rfl) (fun x => by kernel_rfl)
def strings_shouldUseASCIISet (F : Nat)  (a0 : Int) : Option Bool :=
 some (decide (8 < a0))
def strings_shouldUseASCIISet_s : Shp := ⟨124, [.one (.dat (.int .i64))], [], [], ⟨.one (.dat .bool), [], [], []⟩, none, []⟩
def strings_shouldUseASCIISet_p : Plan := .leaf
def strings_shouldUseASCIISet_c (F : Nat) : Ctr E := ⟨strings_shouldUseASCIISet_s, fun (x : Int) => strings_shouldUseASCIISet F x⟩
theorem strings_shouldUseASCIISet_ok (F : Nat) : (strings_shouldUseASCIISet_c F).Ok Tryz.prog := Ctr.ok_of (X := ⟨Tryz.prog, tyT, [], []⟩) (F := F) ⟨E_ok, okN, mixed, goN⟩ (pl := strings_shouldUseASCIISet_p) Tryz.func124 (by kernel_rfl) (fun x => by kernel_rfl)
def strings_IndexAny (F : Nat)  (a0 : List UInt8) (a1 : List UInt8) : Option Int :=
 cond (a1 == [])
 (some (-1))
 (cond ((a1.length : Int) == 1)
 (rq (decide (0 < (a1.length : Int))) ((cond (decide (128 ≤ IntKind.wrap .i32 ((a1.getD 0 0).toNat : Int)))
 (some 65533)
 (some (IntKind.wrap .i32 ((a1.getD 0 0).toNat : Int))) : Option Int).bind fun x1 =>
 (strings_IndexRune F a0 x1).bind fun x2 =>
 some x2))
 ((strings_shouldUseASCIISet F (a0.length : Int)).bind fun x3 =>
 cond x3
 (none)
 (loopF (σ := (List UInt8) × Int) (R := Int) (fun rc5 x4 =>
 cond (Nat.blt (Int.toNat x4.2) x4.1.length)
 ((strings_IndexRune F a1 ((dec x4.1 (Int.toNat x4.2)).1 : Int)).bind fun x6 =>
 cond (decide (0 ≤ x6))
 (some (((Int.toNat x4.2) : Nat) : Int))
 (rc5 (x4.1, ((((Int.toNat x4.2) + (dec x4.1 (Int.toNat x4.2)).2) : Nat) : Int))))
 (some (-1))) F (a0, ((0 : Nat) : Int)))))
def strings_IndexAny_s : Shp := ⟨102, [.one (.dat .str), .one (.dat .str)], [], [], ⟨.one (.dat (.int .i64)), [], [], []⟩, none, []⟩
def strings_IndexAny_p : Plan := .seq [] none (.leaf) (.seq [] none (.leaf) (.seq [] none (.seq [] none (.leaf) (.cond (.seq [] none (.leaf) (.seq [] (some (⟨[(5, .one (.dat (.int .i32)))], [], [], []⟩, false)) (.leaf) (.leaf))) (.leaf))) (.seq [] none (.leaf) (.seq [] none (.seq [] none (.leaf) (.loop [] ⟨[], [some (.iter)], [], []⟩ (.leaf))) (.leaf)))))
def strings_IndexAny_c (F : Nat) : Ctr E := ⟨strings_IndexAny_s, fun (x : (List UInt8) × (List UInt8)) => strings_IndexAny F x.1 x.2⟩
theorem strings_IndexAny_ok (F : Nat) : (strings_IndexAny_c F).Ok Tryz.prog := Ctr.ok_of (X := ⟨Tryz.prog, tyT, [strings_IndexRune_c F, strings_shouldUseASCIISet_c F, absurd125_c F], []⟩) (F := F) ⟨E_ok, okC (strings_IndexRune_ok F) (okC (strings_shouldUseASCIISet_ok F) (okC (absurd125_ok F) (okN))), mixed, goN⟩ (pl := strings_IndexAny_p) Tryz.func102 (by kernel_rfl) (fun x => by kernel_rfl)
end Go.Proofs.YtmklhkmeampamaaGreatDoor
