/- models -/
import Derived.Test.YtipeaopaiplhiaaGreatDoorTy
import Derived.Test.YtipeaopaiplhiaaGreatDoorHs
import Derived.Test.YtipeaopaiplhiaaGreatDoorHf
namespace Go.Proofs.YtipeaopaiplhiaaGreatDoor
open Go.RT
set_option linter.all false
set_option maxRecDepth 100000
def stringsSplit_c (F : Nat) : Ctr E := splitC E 43 9 F
theorem stringsSplit_ok (F : Nat) : (stringsSplit_c F).Ok Tryz.prog := split_ok splitAt F
def stringsIndexAny_c (F : Nat) : Ctr E := iaMC E 84 F
theorem stringsIndexAny_ok (F : Nat) : (stringsIndexAny_c F).Ok Tryz.prog := iaM_ok F
def stringsJoin_c (F : Nat) : Ctr E := joinC E 45 F
theorem stringsJoin_ok (F : Nat) : (stringsJoin_c F).Ok Tryz.prog := join_ok joinAt F
def stringsLastIndexByte_c (F : Nat) : Ctr E := libC E 47 F
theorem stringsLastIndexByte_ok (F : Nat) : (stringsLastIndexByte_c F).Ok Tryz.prog := lib_ok libAt F
def slicesSort_c (F : Nat) : Ctr E := sortC E 37 9 F
theorem slicesSort_ok (F : Nat) : (slicesSort_c F).Ok Tryz.prog := sort_ok sortAt F
def slicesSortFunc_c (F : Nat) : Ctr E := sfC E 51 52 45 3 (.ext 0) keyF F
theorem slicesSortFunc_ok (F : Nat) : (slicesSortFunc_c F).Ok Tryz.prog := sf_ok sfAt F
/- jobshell/jobshellref19.Small -/
def ref19_Small (F : Nat)  (a0 : List TFile) : Option Bool :=
 loopF (σ := Int × Int) (R := Bool) (fun rc2 x1 =>
 (cond (decide (x1.2 < (a0.length : Int)))
 (some (decide (x1.2 < 140)))
 (some false) : Option Bool).bind fun x3 =>
 (cond x3
 (some (decide (x1.1 < 40000)))
 (some false) : Option Bool).bind fun x4 =>
 cond x4
 ((rq ((decide (0 ≤ x1.2)) && (decide (x1.2 < (a0.length : Int)))) (cond (decide (300 < (((a0.getD (Int.toNat x1.2) dTFile).fPath).length : Int)))
 (some true)
 (rq ((decide (0 ≤ x1.2)) && (decide (x1.2 < (a0.length : Int)))) (some (decide (9000 < (((a0.getD (Int.toNat x1.2) dTFile).fData).length : Int)))))) : Option Bool).bind fun x5 =>
 cond x5
 (some false)
 (rq ((decide (0 ≤ x1.2)) && (decide (x1.2 < (a0.length : Int)))) (rq ((decide (0 ≤ x1.2)) && (decide (x1.2 < (a0.length : Int)))) (rc2 (w64 ((w64 (x1.1 + (((a0.getD (Int.toNat x1.2) dTFile).fPath).length : Int))) + (((a0.getD (Int.toNat x1.2) dTFile).fData).length : Int)), w64 (x1.2 + 1))))))
 ((cond (decide ((a0.length : Int) ≤ 140))
 (some (decide (x1.1 < 40000)))
 (some false) : Option Bool).bind fun x6 =>
 some x6)) F (0, 0)
def ref19_Small_s : Shp := ⟨6, [.one (.dat (.lst (.ext 0)))], [], [], ⟨.one (.dat .bool), [], [], []⟩, none, []⟩
def ref19_Small_p : Plan := .seq [] none (.leaf) (.seq [] none (.leaf) (.seq [] none (.seq [] none (.leaf) (.loop [] ⟨[(3, .one (.dat (.int .i64))), (4, .one (.dat (.int .i64)))], [], [], []⟩ (.seq [] none (.seq [] none (.region [(8, ⟨[(12, .one (.dat .bool))], [], [], []⟩, false), (4, ⟨[(16, .one (.dat .bool))], [], [], []⟩, false)]) (.leaf)) (.seq [] none (.seq [] none (.seq [] none (.region [(16, ⟨[(34, .one (.dat .bool))], [], [], []⟩, false)]) (.leaf)) (.draw [⟨true, 16, none⟩])) (.leaf))))) (.seq [] none (.region [(7, ⟨[(56, .one (.dat .bool))], [], [], []⟩, false)]) (.leaf))))
def ref19_Small_c (F : Nat) : Ctr E := ⟨ref19_Small_s, fun (x : List TFile) => ref19_Small F x⟩
theorem ref19_Small_ok (F : Nat) : (ref19_Small_c F).Ok Tryz.prog := Ctr.ok_of (X := ⟨Tryz.prog, tyT, []⟩) (F := F) ⟨E_ok, okN, mixed⟩ (pl := ref19_Small_p) Tryz.func6 (by kernel_rfl) (fun x => by kernel_rfl)
/- jobshell/jobshelllaw19.short -/
def law19_short (F : Nat)  (a0 : List UInt8) (a1 : List UInt8) : Option Bool :=
 (cond (decide ((a0.length : Int) ≤ 600))
 (some (decide ((a1.length : Int) ≤ 600)))
 (some false) : Option Bool).bind fun x1 =>
 some x1
def law19_short_s : Shp := ⟨7, [.one (.dat .str), .one (.dat .str)], [], [], ⟨.one (.dat .bool), [], [], []⟩, none, []⟩
def law19_short_p : Plan := .seq [] none (.leaf) (.seq [] none (.region [(8, ⟨[(12, .one (.dat .bool))], [], [], []⟩, false)]) (.leaf))
def law19_short_c (F : Nat) : Ctr E := ⟨law19_short_s, fun (x : (List UInt8) × (List UInt8)) => law19_short F x.1 x.2⟩
theorem law19_short_ok (F : Nat) : (law19_short_c F).Ok Tryz.prog := Ctr.ok_of (X := ⟨Tryz.prog, tyT, []⟩) (F := F) ⟨E_ok, okN, mixed⟩ (pl := law19_short_p) Tryz.func7 (by kernel_rfl) (fun x => by kernel_rfl)
/- jobshell/jobshellref19.parts -/
def ref19_parts (F : Nat)  (a0 : List UInt8) : Option (List (List UInt8)) :=
 loopF (σ := (List (List UInt8)) × Int × Int) (R := List (List UInt8)) (fun rc2 x1 =>
 cond (decide (x1.2.2 < (a0.length : Int)))
 (rq ((decide (0 ≤ x1.2.2)) && (decide (x1.2.2 < (a0.length : Int)))) (cond (((a0.getD (Int.toNat x1.2.2) 0).toNat : Int) == 47)
 (rq ((decide (0 ≤ x1.2.1)) && ((decide (x1.2.1 ≤ x1.2.2)) && (decide (x1.2.2 ≤ (a0.length : Int))))) (rq ((decide (x1.1.length + ([sl a0 x1.2.1 x1.2.2] : List (List UInt8)).length ≤ 9223372036854775807)) && (decide ((x1.1.length + ([sl a0 x1.2.1 x1.2.2] : List (List UInt8)).length) * 16 ≤ 140737488355328))) (rc2 (x1.1 ++ ([sl a0 x1.2.1 x1.2.2] : List (List UInt8)), w64 (x1.2.2 + 1), w64 (x1.2.2 + 1)))))
 (rc2 (x1.1, x1.2.1, w64 (x1.2.2 + 1)))))
 (rq ((decide (0 ≤ x1.2.1)) && ((decide (x1.2.1 ≤ (a0.length : Int))) && (decide ((a0.length : Int) ≤ (a0.length : Int))))) (rq ((decide (x1.1.length + ([sl a0 x1.2.1 (a0.length : Int)] : List (List UInt8)).length ≤ 9223372036854775807)) && (decide ((x1.1.length + ([sl a0 x1.2.1 (a0.length : Int)] : List (List UInt8)).length) * 16 ≤ 140737488355328))) (some (x1.1 ++ ([sl a0 x1.2.1 (a0.length : Int)] : List (List UInt8))))))) F (([] : List (List UInt8)), 0, 0)
def ref19_parts_s : Shp := ⟨40, [.one (.dat .str)], [], [], ⟨.one (.dat (.lst .str)), [], [], []⟩, none, []⟩
def ref19_parts_p : Plan := .seq [] none (.leaf) (.seq [.slot 2 9 .str] none (.leaf) (.seq [.slot 3 9 .str] none (.leaf) (.seq [] none (.seq [] none (.leaf) (.loop [] ⟨[(3, .one (.gsl 1 .str)), (4, .one (.dat (.int .i64))), (5, .one (.dat (.int .i64)))], [], [none, some (9, 1)], []⟩ (.leaf))) (.leaf))))
def ref19_parts_c (F : Nat) : Ctr E := ⟨ref19_parts_s, fun (x : List UInt8) => ref19_parts F x⟩
theorem ref19_parts_ok (F : Nat) : (ref19_parts_c F).Ok Tryz.prog := Ctr.ok_of (X := ⟨Tryz.prog, tyT, []⟩) (F := F) ⟨E_ok, okN, mixed⟩ (pl := ref19_parts_p) Tryz.func40 (by kernel_rfl) (fun x => by kernel_rfl)
/- jobshell/jobshellref19.name -/
def ref19_name (F : Nat)  (a0 : List UInt8) : Option Bool :=
 (cond (decide ((a0.length : Int) < 1))
 (some true)
 (some (decide (32 < (a0.length : Int)))) : Option Bool).bind fun x1 =>
 (cond x1
 (some true)
 (some (a0 == ([46] : List UInt8))) : Option Bool).bind fun x2 =>
 (cond x2
 (some true)
 (some (a0 == ([46, 46] : List UInt8))) : Option Bool).bind fun x3 =>
 cond x3
 (some false)
 (loopF (σ := Int) (R := Bool) (fun rc5 x4 =>
 cond (decide (x4 < (a0.length : Int)))
 ((rq ((decide (0 ≤ x4)) && (decide (x4 < (a0.length : Int)))) (cond (((a0.getD (Int.toNat x4) 0).toNat : Int) == 47)
 (some true)
 (rq ((decide (0 ≤ x4)) && (decide (x4 < (a0.length : Int)))) (some (((a0.getD (Int.toNat x4) 0).toNat : Int) == 0)))) : Option Bool).bind fun x6 =>
 cond x6
 (some false)
 (rc5 (w64 (x4 + 1))))
 (some true)) F 0)
def ref19_name_s : Shp := ⟨41, [.one (.dat .str)], [], [], ⟨.one (.dat .bool), [], [], []⟩, none, []⟩
def ref19_name_p : Plan := .seq [] none (.leaf) (.seq [] none (.seq [] none (.region [(8, ⟨[(11, .one (.dat .bool))], [], [], []⟩, false), (4, ⟨[(15, .one (.dat .bool))], [], [], []⟩, false), (4, ⟨[(19, .one (.dat .bool))], [], [], []⟩, false)]) (.leaf)) (.seq [] none (.seq [] none (.leaf) (.loop [] ⟨[(3, .one (.dat (.int .i64)))], [], [], []⟩ (.seq [] none (.leaf) (.seq [] none (.seq [] none (.region [(10, ⟨[(35, .one (.dat .bool))], [], [], []⟩, false)]) (.leaf)) (.leaf))))) (.leaf)))
def ref19_name_c (F : Nat) : Ctr E := ⟨ref19_name_s, fun (x : List UInt8) => ref19_name F x⟩
theorem ref19_name_ok (F : Nat) : (ref19_name_c F).Ok Tryz.prog := Ctr.ok_of (X := ⟨Tryz.prog, tyT, []⟩) (F := F) ⟨E_ok, okN, mixed⟩ (pl := ref19_name_p) Tryz.func41 (by kernel_rfl) (fun x => by kernel_rfl)
/- jobshell/jobshellref19.IsPath -/
def ref19_IsPath (F : Nat)  (a0 : List UInt8) : Option Bool :=
 cond (a0 == ([47] : List UInt8))
 (some true)
 ((cond (decide ((a0.length : Int) < 2))
 (some true)
 (some (decide (128 < (a0.length : Int)))) : Option Bool).bind fun x1 =>
 (cond x1
 (some true)
 (rq (decide (0 < (a0.length : Int))) (some (((a0.getD 0 0).toNat : Int) != 47))) : Option Bool).bind fun x2 =>
 cond x2
 (some false)
 (rq ((decide (1 ≤ (a0.length : Int))) && (decide ((a0.length : Int) ≤ (a0.length : Int)))) ((ref19_parts F (sl a0 1 (a0.length : Int))).bind fun x3 =>
 loopF (σ := Int) (R := Bool) (fun rc5 x4 =>
 cond (decide (x4 < (x3.length : Int)))
 (rq ((decide (0 ≤ x4)) && (decide (x4 < (x3.length : Int)))) ((ref19_name F (x3.getD (Int.toNat x4) [])).bind fun x6 =>
 cond (!x6)
 (some false)
 (rc5 (w64 (x4 + 1)))))
 (some true)) F 0)))
def ref19_IsPath_s : Shp := ⟨22, [.one (.dat .str)], [], [], ⟨.one (.dat .bool), [], [], []⟩, none, []⟩
def ref19_IsPath_p : Plan := .seq [] none (.leaf) (.seq [] none (.leaf) (.seq [] none (.seq [] none (.region [(8, ⟨[(14, .one (.dat .bool))], [], [], []⟩, false), (5, ⟨[(19, .one (.dat .bool))], [], [], []⟩, false)]) (.leaf)) (.seq [] none (.leaf) (.seq [] none (.seq [] none (.leaf) (.loop [] ⟨[(4, .one (.dat (.int .i64)))], [], [], []⟩ (.leaf))) (.leaf)))))
def ref19_IsPath_c (F : Nat) : Ctr E := ⟨ref19_IsPath_s, fun (x : List UInt8) => ref19_IsPath F x⟩
theorem ref19_IsPath_ok (F : Nat) : (ref19_IsPath_c F).Ok Tryz.prog := Ctr.ok_of (X := ⟨Tryz.prog, tyT, [ref19_parts_c F, ref19_name_c F]⟩) (F := F) ⟨E_ok, okC (ref19_parts_ok F) (okC (ref19_name_ok F) (okN)), mixed⟩ (pl := ref19_IsPath_p) Tryz.func22 (by kernel_rfl) (fun x => by kernel_rfl)
/- jobshell/jobshellref19.Above -/
def ref19_Above (F : Nat)  (a0 : List UInt8) (a1 : List UInt8) : Option Bool :=
 cond (a0 == ([47] : List UInt8))
 (some (!(a1 == ([47] : List UInt8))))
 ((cond (decide ((a0.length : Int) < (a1.length : Int)))
 (rq ((decide (0 ≤ (a0.length : Int))) && (decide ((a0.length : Int) ≤ (a1.length : Int)))) (some ((sl a1 0 (a0.length : Int)) == a0)))
 (some false) : Option Bool).bind fun x1 =>
 (cond x1
 (rq ((decide (0 ≤ (a0.length : Int))) && (decide ((a0.length : Int) < (a1.length : Int)))) (some (((a1.getD (Int.toNat (a0.length : Int)) 0).toNat : Int) == 47)))
 (some false) : Option Bool).bind fun x2 =>
 some x2)
def ref19_Above_s : Shp := ⟨33, [.one (.dat .str), .one (.dat .str)], [], [], ⟨.one (.dat .bool), [], [], []⟩, none, []⟩
def ref19_Above_p : Plan := .seq [] none (.leaf) (.seq [] none (.leaf) (.seq [] none (.region [(13, ⟨[(21, .one (.dat .bool))], [], [], []⟩, false), (7, ⟨[(28, .one (.dat .bool))], [], [], []⟩, false)]) (.leaf)))
def ref19_Above_c (F : Nat) : Ctr E := ⟨ref19_Above_s, fun (x : (List UInt8) × (List UInt8)) => ref19_Above F x.1 x.2⟩
theorem ref19_Above_ok (F : Nat) : (ref19_Above_c F).Ok Tryz.prog := Ctr.ok_of (X := ⟨Tryz.prog, tyT, []⟩) (F := F) ⟨E_ok, okN, mixed⟩ (pl := ref19_Above_p) Tryz.func33 (by kernel_rfl) (fun x => by kernel_rfl)
/- jobshell/jobshellref19.cut -/
def ref19_cut (F : Nat)  (a0 : List UInt8) : Option Int :=
 loopF (σ := Int × Int) (R := Int) (fun rc2 x1 =>
 cond (decide (x1.2 < (a0.length : Int)))
 (rq ((decide (0 ≤ x1.2)) && (decide (x1.2 < (a0.length : Int)))) (cond (((a0.getD (Int.toNat x1.2) 0).toNat : Int) == 47)
 (rc2 (x1.2, w64 (x1.2 + 1)))
 (rc2 (x1.1, w64 (x1.2 + 1)))))
 (some x1.1)) F (0, 0)
def ref19_cut_s : Shp := ⟨59, [.one (.dat .str)], [], [], ⟨.one (.dat (.int .i64)), [], [], []⟩, none, []⟩
def ref19_cut_p : Plan := .seq [] none (.leaf) (.seq [] none (.leaf) (.seq [] none (.seq [] none (.leaf) (.loop [] ⟨[(3, .one (.dat (.int .i64))), (4, .one (.dat (.int .i64)))], [], [], []⟩ (.leaf))) (.leaf)))
def ref19_cut_c (F : Nat) : Ctr E := ⟨ref19_cut_s, fun (x : List UInt8) => ref19_cut F x⟩
theorem ref19_cut_ok (F : Nat) : (ref19_cut_c F).Ok Tryz.prog := Ctr.ok_of (X := ⟨Tryz.prog, tyT, []⟩) (F := F) ⟨E_ok, okN, mixed⟩ (pl := ref19_cut_p) Tryz.func59 (by kernel_rfl) (fun x => by kernel_rfl)
/- jobshell/jobshellref19.Parent -/
def ref19_Parent (F : Nat)  (a0 : List UInt8) : Option (List UInt8) :=
 (ref19_cut F a0).bind fun x1 =>
 cond (x1 == 0)
 (some ([47] : List UInt8))
 (rq ((decide (0 ≤ x1)) && (decide (x1 ≤ (a0.length : Int)))) (some (sl a0 0 x1)))
def ref19_Parent_s : Shp := ⟨42, [.one (.dat .str)], [], [], ⟨.one (.dat .str), [], [], []⟩, none, []⟩
def ref19_Parent_p : Plan := .leaf
def ref19_Parent_c (F : Nat) : Ctr E := ⟨ref19_Parent_s, fun (x : List UInt8) => ref19_Parent F x⟩
theorem ref19_Parent_ok (F : Nat) : (ref19_Parent_c F).Ok Tryz.prog := Ctr.ok_of (X := ⟨Tryz.prog, tyT, [ref19_cut_c F]⟩) (F := F) ⟨E_ok, okC (ref19_cut_ok F) (okN), mixed⟩ (pl := ref19_Parent_p) Tryz.func42 (by kernel_rfl) (fun x => by kernel_rfl)
/- jobshell/jobshellref19.find -/
def ref19_find (F : Nat)  (a0 : List TFile) (a1 : List UInt8) : Option Int :=
 loopF (σ := Int) (R := Int) (fun rc2 x1 =>
 cond (decide (x1 < (a0.length : Int)))
 (rq ((decide (0 ≤ x1)) && (decide (x1 < (a0.length : Int)))) (cond (((a0.getD (Int.toNat x1) dTFile).fPath) == a1)
 (some x1)
 (rc2 (w64 (x1 + 1)))))
 (some (-1))) F 0
def ref19_find_s : Shp := ⟨32, [.one (.dat (.lst (.ext 0))), .one (.dat .str)], [], [], ⟨.one (.dat (.int .i64)), [], [], []⟩, none, []⟩
def ref19_find_p : Plan := .seq [] none (.leaf) (.seq [] none (.seq [] none (.leaf) (.loop [] ⟨[(5, .one (.dat (.int .i64)))], [], [], []⟩ (.leaf))) (.leaf))
def ref19_find_c (F : Nat) : Ctr E := ⟨ref19_find_s, fun (x : (List TFile) × (List UInt8)) => ref19_find F x.1 x.2⟩
theorem ref19_find_ok (F : Nat) : (ref19_find_c F).Ok Tryz.prog := Ctr.ok_of (X := ⟨Tryz.prog, tyT, []⟩) (F := F) ⟨E_ok, okN, mixed⟩ (pl := ref19_find_p) Tryz.func32 (by kernel_rfl) (fun x => by kernel_rfl)
/- jobshell/jobshellref19.parent -/
def ref19_parent (F : Nat)  (a0 : List TFile) (a1 : List UInt8) : Option Int :=
 loopF (σ := Int) (R := Int) (fun rc2 x1 =>
 cond (decide (x1 < (a0.length : Int)))
 ((rq ((decide (0 ≤ x1)) && (decide (x1 < (a0.length : Int)))) (cond (!((a0.getD (Int.toNat x1) dTFile).fDir))
 (rq ((decide (0 ≤ x1)) && (decide (x1 < (a0.length : Int)))) ((ref19_Above F ((a0.getD (Int.toNat x1) dTFile).fPath) a1).bind fun x4 =>
 some x4))
 (some false)) : Option Bool).bind fun x3 =>
 cond x3
 (some 18)
 (rc2 (w64 (x1 + 1))))
 ((ref19_Parent F a1).bind fun x5 =>
 (ref19_find F a0 x5).bind fun x6 =>
 cond (decide (x6 < 0))
 (some 8)
 (some 0))) F 0
def ref19_parent_s : Shp := ⟨23, [.one (.dat (.lst (.ext 0))), .one (.dat .str)], [], [], ⟨.one (.dat (.int .i64)), [], [], []⟩, none, []⟩
def ref19_parent_p : Plan := .seq [] none (.leaf) (.seq [] none (.seq [] none (.leaf) (.loop [] ⟨[(5, .one (.dat (.int .i64)))], [], [], []⟩ (.seq [] none (.leaf) (.seq [] none (.seq [] none (.region [(15, ⟨[(26, .one (.dat .bool))], [], [], []⟩, false)]) (.leaf)) (.leaf))))) (.leaf))
def ref19_parent_c (F : Nat) : Ctr E := ⟨ref19_parent_s, fun (x : (List TFile) × (List UInt8)) => ref19_parent F x.1 x.2⟩
theorem ref19_parent_ok (F : Nat) : (ref19_parent_c F).Ok Tryz.prog := Ctr.ok_of (X := ⟨Tryz.prog, tyT, [ref19_Above_c F, ref19_Parent_c F, ref19_find_c F]⟩) (F := F) ⟨E_ok, okC (ref19_Above_ok F) (okC (ref19_Parent_ok F) (okC (ref19_find_ok F) (okN))), mixed⟩ (pl := ref19_parent_p) Tryz.func23 (by kernel_rfl) (fun x => by kernel_rfl)
/- jobshell/jobshellref19.Valid -/
def ref19_Valid (F : Nat)  (a0 : List TFile) : Option Int :=
 cond (decide (128 < (a0.length : Int)))
 (some 4)
 ((cond ((a0.length : Int) == 0)
 (some true)
 (rq (decide (0 < (a0.length : Int))) (some (!(((a0.getD 0 dTFile).fPath) == ([47] : List UInt8))))) : Option Bool).bind fun x1 =>
 cond x1
 (some 8)
 (loopF (σ := Int) (R := Int) (fun rc3 x2 =>
 cond (decide (x2 < (a0.length : Int)))
 (rq ((decide (0 ≤ x2)) && (decide (x2 < (a0.length : Int)))) ((ref19_IsPath F ((a0.getD (Int.toNat x2) dTFile).fPath)).bind fun x4 =>
 cond (!x4)
 (some 10)
 ((cond ((a0.getD (Int.toNat x2) dTFile).fDir)
 (some (!(((a0.getD (Int.toNat x2) dTFile).fData) == [])))
 (some false) : Option Bool).bind fun x5 =>
 (cond x5
 (some true)
 (cond (((a0.getD (Int.toNat x2) dTFile).fPath) == ([47] : List UInt8))
 (some (!((a0.getD (Int.toNat x2) dTFile).fDir)))
 (some false)) : Option Bool).bind fun x6 =>
 cond x6
 (some 1)
 (cond (decide (8192 < (((a0.getD (Int.toNat x2) dTFile).fData).length : Int)))
 (some 3)
 ((cond (decide (0 < x2))
 (rq ((decide (0 ≤ w64 (x2 - 1))) && (decide (w64 (x2 - 1) < (a0.length : Int)))) (some (Op.bytesLess ((a0.getD (Int.toNat x2) dTFile).fPath) ((a0.getD (Int.toNat (w64 (x2 - 1))) dTFile).fPath) || ((a0.getD (Int.toNat x2) dTFile).fPath) == ((a0.getD (Int.toNat (w64 (x2 - 1))) dTFile).fPath))))
 (some false) : Option Bool).bind fun x7 =>
 cond x7
 (some 25)
 (cond (decide (0 < x2))
 (rq ((decide (0 ≤ x2)) && (decide (x2 ≤ (a0.length : Int)))) ((ref19_parent F (sl a0 0 x2) ((a0.getD (Int.toNat x2) dTFile).fPath)).bind fun x8 =>
 cond (x8 != 0)
 (some x8)
 (rc3 (w64 (x2 + 1)))))
 (rc3 (w64 (x2 + 1)))))))))
 (some 0)) F 0))
def ref19_Valid_s : Shp := ⟨8, [.one (.dat (.lst (.ext 0)))], [], [], ⟨.one (.dat (.int .i64)), [], [], []⟩, none, []⟩
def ref19_Valid_p : Plan := .seq [] none (.leaf) (.seq [] none (.leaf) (.seq [] none (.seq [] none (.region [(10, ⟨[(18, .one (.dat .bool))], [], [], []⟩, false)]) (.leaf)) (.seq [] none (.seq [] none (.leaf) (.loop [] ⟨[(3, .one (.dat (.int .i64)))], [], [], []⟩ (.seq [] none (.leaf) (.seq [] none (.seq [] none (.leaf) (.seq [] none (.leaf) (.seq [] none (.seq [] none (.region [(7, ⟨[(39, .one (.dat .bool))], [none], [], []⟩, false), (10, ⟨[(49, .one (.dat .bool))], [none], [], []⟩, false)]) (.leaf)) (.seq [] none (.leaf) (.seq [] none (.seq [] none (.draw [⟨true, 13, some ⟨[(66, .one (.dat .bool))], [none], [], []⟩⟩]) (.leaf)) (.seq [] none (.leaf) (.cond (.seq [] none (.draw [⟨true, 5, none⟩, ⟨false, 2, none⟩]) (.leaf)) (.leaf)))))))) (.leaf))))) (.leaf))))
def ref19_Valid_c (F : Nat) : Ctr E := ⟨ref19_Valid_s, fun (x : List TFile) => ref19_Valid F x⟩
theorem ref19_Valid_ok (F : Nat) : (ref19_Valid_c F).Ok Tryz.prog := Ctr.ok_of (X := ⟨Tryz.prog, tyT, [ref19_IsPath_c F, ref19_parent_c F]⟩) (F := F) ⟨E_ok, okC (ref19_IsPath_ok F) (okC (ref19_parent_ok F) (okN)), mixed⟩ (pl := ref19_Valid_p) Tryz.func8 (by kernel_rfl) (fun x => by kernel_rfl)
/- internal/stringslite.HasPrefix -/
def stringslite_HasPrefix (F : Nat)  (a0 : List UInt8) (a1 : List UInt8) : Option Bool :=
 (cond (decide ((a1.length : Int) ≤ (a0.length : Int)))
 (rq ((decide (0 ≤ (a1.length : Int))) && (decide ((a1.length : Int) ≤ (a0.length : Int)))) (some ((sl a0 0 (a1.length : Int)) == a1)))
 (some false) : Option Bool).bind fun x1 =>
 some x1
def stringslite_HasPrefix_s : Shp := ⟨66, [.one (.dat .str), .one (.dat .str)], [], [], ⟨.one (.dat .bool), [], [], []⟩, none, []⟩
def stringslite_HasPrefix_p : Plan := .seq [] none (.leaf) (.seq [] none (.region [(13, ⟨[(17, .one (.dat .bool))], [], [], []⟩, false)]) (.leaf))
def stringslite_HasPrefix_c (F : Nat) : Ctr E := ⟨stringslite_HasPrefix_s, fun (x : (List UInt8) × (List UInt8)) => stringslite_HasPrefix F x.1 x.2⟩
theorem stringslite_HasPrefix_ok (F : Nat) : (stringslite_HasPrefix_c F).Ok Tryz.prog := Ctr.ok_of (X := ⟨Tryz.prog, tyT, []⟩) (F := F) ⟨E_ok, okN, mixed⟩ (pl := stringslite_HasPrefix_p) Tryz.func66 (by kernel_rfl) (fun x => by kernel_rfl)
/- strings.HasPrefix -/
def strings_HasPrefix (F : Nat)  (a0 : List UInt8) (a1 : List UInt8) : Option Bool :=
 (stringslite_HasPrefix F a0 a1).bind fun x1 =>
 some x1
def strings_HasPrefix_s : Shp := ⟨48, [.one (.dat .str), .one (.dat .str)], [], [], ⟨.one (.dat .bool), [], [], []⟩, none, []⟩
def strings_HasPrefix_p : Plan := .leaf
def strings_HasPrefix_c (F : Nat) : Ctr E := ⟨strings_HasPrefix_s, fun (x : (List UInt8) × (List UInt8)) => strings_HasPrefix F x.1 x.2⟩
theorem strings_HasPrefix_ok (F : Nat) : (strings_HasPrefix_c F).Ok Tryz.prog := Ctr.ok_of (X := ⟨Tryz.prog, tyT, [stringslite_HasPrefix_c F]⟩) (F := F) ⟨E_ok, okC (stringslite_HasPrefix_ok F) (okN), mixed⟩ (pl := strings_HasPrefix_p) Tryz.func48 (by kernel_rfl) (fun x => by kernel_rfl)
/- strings.ContainsAny -/
def strings_ContainsAny (F : Nat)  (a0 : List UInt8) (a1 : List UInt8) : Option Bool :=
 (iaMF F a0 a1).bind fun x1 =>
 some (decide (0 ≤ x1))
def strings_ContainsAny_s : Shp := ⟨61, [.one (.dat .str), .one (.dat .str)], [], [], ⟨.one (.dat .bool), [], [], []⟩, none, []⟩
def strings_ContainsAny_p : Plan := .leaf
def strings_ContainsAny_c (F : Nat) : Ctr E := ⟨strings_ContainsAny_s, fun (x : (List UInt8) × (List UInt8)) => strings_ContainsAny F x.1 x.2⟩
theorem strings_ContainsAny_ok (F : Nat) : (strings_ContainsAny_c F).Ok Tryz.prog := Ctr.ok_of (X := ⟨Tryz.prog, tyT, [stringsIndexAny_c F]⟩) (F := F) ⟨E_ok, okC (stringsIndexAny_ok F) (okN), mixed⟩ (pl := strings_ContainsAny_p) Tryz.func61 (by kernel_rfl) (fun x => by kernel_rfl)
/- jobshell/files.isName -/
def files_isName (F : Nat)  (a0 : List UInt8) : Option Bool :=
 (cond (decide (1 ≤ (a0.length : Int)))
 (some (decide ((a0.length : Int) ≤ 32)))
 (some false) : Option Bool).bind fun x1 =>
 (cond x1
 (some (!(a0 == ([46] : List UInt8))))
 (some false) : Option Bool).bind fun x2 =>
 (cond x2
 (some (!(a0 == ([46, 46] : List UInt8))))
 (some false) : Option Bool).bind fun x3 =>
 (cond x3
 ((strings_ContainsAny F a0 ([47, 0] : List UInt8)).bind fun x5 =>
 some (!x5))
 (some false) : Option Bool).bind fun x4 =>
 some x4
def files_isName_s : Shp := ⟨44, [.one (.dat .str)], [], [], ⟨.one (.dat .bool), [], [], []⟩, none, []⟩
def files_isName_p : Plan := .seq [] none (.leaf) (.seq [] none (.region [(8, ⟨[(10, .one (.dat .bool))], [], [], []⟩, false), (4, ⟨[(14, .one (.dat .bool))], [], [], []⟩, false), (4, ⟨[(18, .one (.dat .bool))], [], [], []⟩, false), (5, ⟨[(23, .one (.dat .bool))], [], [], []⟩, false)]) (.leaf))
def files_isName_c (F : Nat) : Ctr E := ⟨files_isName_s, fun (x : List UInt8) => files_isName F x⟩
theorem files_isName_ok (F : Nat) : (files_isName_c F).Ok Tryz.prog := Ctr.ok_of (X := ⟨Tryz.prog, tyT, [strings_ContainsAny_c F]⟩) (F := F) ⟨E_ok, okC (strings_ContainsAny_ok F) (okN), mixed⟩ (pl := files_isName_p) Tryz.func44 (by kernel_rfl) (fun x => by kernel_rfl)
/- jobshell/files.isPath -/
def files_isPath (F : Nat)  (a0 : List UInt8) : Option Bool :=
 cond (a0 == ([47] : List UInt8))
 (some true)
 ((cond (decide (128 < (a0.length : Int)))
 (some true)
 ((strings_HasPrefix F a0 ([47] : List UInt8)).bind fun x2 =>
 some (!x2)) : Option Bool).bind fun x1 =>
 cond x1
 (some false)
 ((rq ((decide (1 ≤ (a0.length : Int))) && (decide ((a0.length : Int) ≤ (a0.length : Int)))) ((splitF F (sl a0 1 (a0.length : Int)) ([47] : List UInt8)).bind fun x4 =>
 some x4) : Option (List (List UInt8))).bind fun x3 =>
 loopF (σ := Int) (R := Bool) (fun rc6 x5 =>
 cond (decide (x5 < (x3.length : Int)))
 (rq ((decide (0 ≤ x5)) && (decide (x5 < (x3.length : Int)))) ((files_isName F (x3.getD (Int.toNat x5) [])).bind fun x7 =>
 cond (!x7)
 (some false)
 (rc6 (w64 (x5 + 1)))))
 (some true)) F 0))
def files_isPath_s : Shp := ⟨27, [.one (.dat .str)], [], [], ⟨.one (.dat .bool), [], [], []⟩, none, []⟩
def files_isPath_p : Plan := .seq [] none (.leaf) (.seq [] none (.leaf) (.seq [] none (.seq [] none (.region [(8, ⟨[(14, .one (.dat .bool))], [], [], []⟩, false)]) (.leaf)) (.seq [] none (.seq [] none (.region [(3, ⟨[(17, .one (.dat (.lst .str)))], [], [], []⟩, false)]) (.loop [] ⟨[(19, .one (.dat (.int .i64)))], [], [], []⟩ (.leaf))) (.leaf))))
def files_isPath_c (F : Nat) : Ctr E := ⟨files_isPath_s, fun (x : List UInt8) => files_isPath F x⟩
theorem files_isPath_ok (F : Nat) : (files_isPath_c F).Ok Tryz.prog := Ctr.ok_of (X := ⟨Tryz.prog, tyT, [strings_HasPrefix_c F, stringsSplit_c F, files_isName_c F]⟩) (F := F) ⟨E_ok, okC (strings_HasPrefix_ok F) (okC (stringsSplit_ok F) (okC (files_isName_ok F) (okN))), mixed⟩ (pl := files_isPath_p) Tryz.func27 (by kernel_rfl) (fun x => by kernel_rfl)
/- jobshell/files.Clean -/
def files_Clean (F : Nat)  (a0 : List UInt8) (a1 : List UInt8) : Option ((List UInt8) × Int) :=
 (files_isPath F a0).bind fun x1 =>
 cond (!x1)
 (some ([], 10))
 (cond (a1 == [])
 (some ([], 8))
 (((rq (decide (0 < (a1.length : Int))) (cond (((a1.getD 0 0).toNat : Int) != 47)
 (some (!(a0 == ([47] : List UInt8))))
 (some false)) : Option Bool).bind fun x3 =>
 cond x3
 (rq ((decide (1 ≤ (a0.length : Int))) && (decide ((a0.length : Int) ≤ (a0.length : Int)))) ((splitF F (sl a0 1 (a0.length : Int)) ([47] : List UInt8)).bind fun x4 =>
 some x4))
 (some ([] : List (List UInt8))) : Option (List (List UInt8))).bind fun x2 =>
 ((splitF F a1 ([47] : List UInt8)).bind fun x6 =>
 some (x6, x2) : Option ((List (List UInt8)) × (List (List UInt8)))).bind fun x5 =>
 loopF (σ := Int × (List (List UInt8))) (R := (List UInt8) × Int) (fun rc8 x7 =>
 cond (decide (x7.1 < (x5.1.length : Int)))
 (rq ((decide (0 ≤ x7.1)) && (decide (x7.1 < (x5.1.length : Int)))) ((cond ((x5.1.getD (Int.toNat x7.1) []) == [])
 (some (true, x7.2))
 (some ((x5.1.getD (Int.toNat x7.1) []) == ([46] : List UInt8), x7.2)) : Option (Bool × (List (List UInt8)))).bind fun x9 =>
 cond x9.1
 (rc8 (w64 (x7.1 + 1), x9.2))
 (cond ((x5.1.getD (Int.toNat x7.1) []) == ([46, 46] : List UInt8))
 (rq ((decide (0 ≤ cond (decide (w64 ((x9.2.length : Int) - 1) < 0)) 0 (w64 ((x9.2.length : Int) - 1)))) && (decide (cond (decide (w64 ((x9.2.length : Int) - 1) < 0)) 0 (w64 ((x9.2.length : Int) - 1)) ≤ (x9.2.length : Int)))) (rc8 (w64 (x7.1 + 1), x9.2.take (Int.toNat (cond (decide (w64 ((x9.2.length : Int) - 1) < 0)) 0 (w64 ((x9.2.length : Int) - 1)))))))
 ((files_isName F (x5.1.getD (Int.toNat x7.1) [])).bind fun x10 =>
 cond x10
 (rq ((decide (x9.2.length + ([x5.1.getD (Int.toNat x7.1) []] : List (List UInt8)).length ≤ 9223372036854775807)) && (decide ((x9.2.length + ([x5.1.getD (Int.toNat x7.1) []] : List (List UInt8)).length) * 16 ≤ 140737488355328))) (rc8 (w64 (x7.1 + 1), x9.2 ++ ([x5.1.getD (Int.toNat x7.1) []] : List (List UInt8)))))
 (some ([], 10))))))
 ((joinF F x7.2 ([47] : List UInt8)).bind fun x11 =>
 rq (decide (([47] : List UInt8).length + x11.length ≤ 9223372036854775807)) (cond (decide (128 < ((([47] : List UInt8) ++ x11).length : Int)))
 (some ([], 3))
 (some (([47] : List UInt8) ++ x11, 0))))) F (0, x5.2)))
def files_Clean_s : Shp := ⟨24, [.one (.dat .str), .one (.dat .str)], [], [], ⟨.tup [.dat .str, .dat (.int .i64)], [], [], []⟩, none, []⟩
def files_Clean_p : Plan := .seq [] none (.leaf) (.seq [] none (.leaf) (.seq [] none (.leaf) (.seq [] (some (⟨[(6, .one (.gso 0))], [], [some (9, 1)], [(0, .str)]⟩, false)) (.seq [] none (.region [(7, ⟨[(23, .one (.dat .bool))], [], [], []⟩, false)]) (.leaf)) (.seq [] none (.seq [] none (.region [(2, ⟨[(28, .one (.dat (.lst .str)))], [], [none], [(0, .str)]⟩, false)]) (.loop [] ⟨[(6, .one (.gso 0)), (30, .one (.dat (.int .i64)))], [], [some (9, 1)], [(0, .str)]⟩ (.seq [] none (.leaf) (.seq [] none (.leaf) (.seq [] none (.seq [] none (.leaf) (.seq [] none (.region [(6, ⟨[(40, .one (.dat .bool))], [], [none], [(0, .str)]⟩, false)]) (.leaf))) (.leaf)))))) (.leaf)))))
def files_Clean_c (F : Nat) : Ctr E := ⟨files_Clean_s, fun (x : (List UInt8) × (List UInt8)) => files_Clean F x.1 x.2⟩
theorem files_Clean_ok (F : Nat) : (files_Clean_c F).Ok Tryz.prog := Ctr.ok_of (X := ⟨Tryz.prog, tyT, [files_isPath_c F, stringsSplit_c F, files_isName_c F, stringsJoin_c F]⟩) (F := F) ⟨E_ok, okC (files_isPath_ok F) (okC (stringsSplit_ok F) (okC (files_isName_ok F) (okC (stringsJoin_ok F) (okN)))), mixed⟩ (pl := files_Clean_p) Tryz.func24 (by kernel_rfl) (fun x => by kernel_rfl)
/- jobshell/files.New -/
def files_New (F : Nat)   : Option (List TFile) :=
 some ([(TFile.mk ([47] : List UInt8) true [])] : List TFile)
def files_New_s : Shp := ⟨13, [], [], [], ⟨.one (.dat (.lst (.ext 0))), [], [], []⟩, none, []⟩
def files_New_p : Plan := .leaf
def files_New_c (F : Nat) : Ctr E := ⟨files_New_s, fun (x : Unit) => files_New F ⟩
theorem files_New_ok (F : Nat) : (files_New_c F).Ok Tryz.prog := Ctr.ok_of (X := ⟨Tryz.prog, tyT, []⟩) (F := F) ⟨E_ok, okN, mixed⟩ (pl := files_New_p) Tryz.func13 (by kernel_rfl) (fun x => by kernel_rfl)
/- jobshell/files.Find -/
def files_Find (F : Nat)  (a0 : List TFile) (a1 : List UInt8) : Option (TFile × Bool) :=
 loopF (σ := Int) (R := TFile × Bool) (fun rc2 x1 =>
 cond (decide (x1 < (a0.length : Int)))
 (rq ((decide (0 ≤ x1)) && (decide (x1 < (a0.length : Int)))) (cond (((a0.getD (Int.toNat x1) dTFile).fPath) == a1)
 (some ((a0.getD (Int.toNat x1) dTFile), true))
 (rc2 (w64 (x1 + 1)))))
 (some ((TFile.mk [] false []), false))) F 0
def files_Find_s : Shp := ⟨19, [.one (.dat (.lst (.ext 0))), .one (.dat .str)], [], [], ⟨.tup [.dat (.ext 0), .dat .bool], [], [], []⟩, none, []⟩
def files_Find_p : Plan := .seq [] none (.leaf) (.seq [] none (.seq [] none (.leaf) (.loop [] ⟨[(10, .one (.dat (.int .i64)))], [none], [], []⟩ (.leaf))) (.leaf))
def files_Find_c (F : Nat) : Ctr E := ⟨files_Find_s, fun (x : (List TFile) × (List UInt8)) => files_Find F x.1 x.2⟩
theorem files_Find_ok (F : Nat) : (files_Find_c F).Ok Tryz.prog := Ctr.ok_of (X := ⟨Tryz.prog, tyT, []⟩) (F := F) ⟨E_ok, okN, mixed⟩ (pl := files_Find_p) Tryz.func19 (by kernel_rfl) (fun x => by kernel_rfl)
/- jobshell/files.above -/
def files_above (F : Nat)  (a0 : List UInt8) (a1 : List UInt8) : Option Bool :=
 cond (a0 == ([47] : List UInt8))
 (some (!(a1 == ([47] : List UInt8))))
 (rq (decide (a0.length + ([47] : List UInt8).length ≤ 9223372036854775807)) ((strings_HasPrefix F a1 (a0 ++ ([47] : List UInt8))).bind fun x1 =>
 some x1))
def files_above_s : Shp := ⟨28, [.one (.dat .str), .one (.dat .str)], [], [], ⟨.one (.dat .bool), [], [], []⟩, none, []⟩
def files_above_p : Plan := .leaf
def files_above_c (F : Nat) : Ctr E := ⟨files_above_s, fun (x : (List UInt8) × (List UInt8)) => files_above F x.1 x.2⟩
theorem files_above_ok (F : Nat) : (files_above_c F).Ok Tryz.prog := Ctr.ok_of (X := ⟨Tryz.prog, tyT, [strings_HasPrefix_c F]⟩) (F := F) ⟨E_ok, okC (strings_HasPrefix_ok F) (okN), mixed⟩ (pl := files_above_p) Tryz.func28 (by kernel_rfl) (fun x => by kernel_rfl)
/- jobshell/files.parent -/
def files_parent (F : Nat)  (a0 : List UInt8) : Option (List UInt8) :=
 (libF F a0 47).bind fun x1 =>
 cond (decide (x1 ≤ 0))
 (some ([47] : List UInt8))
 (rq ((decide (0 ≤ x1)) && (decide (x1 ≤ (a0.length : Int)))) (some (sl a0 0 x1)))
def files_parent_s : Shp := ⟨46, [.one (.dat .str)], [], [], ⟨.one (.dat .str), [], [], []⟩, none, []⟩
def files_parent_p : Plan := .leaf
def files_parent_c (F : Nat) : Ctr E := ⟨files_parent_s, fun (x : List UInt8) => files_parent F x⟩
theorem files_parent_ok (F : Nat) : (files_parent_c F).Ok Tryz.prog := Ctr.ok_of (X := ⟨Tryz.prog, tyT, [stringsLastIndexByte_c F]⟩) (F := F) ⟨E_ok, okC (stringsLastIndexByte_ok F) (okN), mixed⟩ (pl := files_parent_p) Tryz.func46 (by kernel_rfl) (fun x => by kernel_rfl)
/- jobshell/files.parentError -/
def files_parentError (F : Nat)  (a0 : List TFile) (a1 : List UInt8) : Option Int :=
 loopF (σ := Int) (R := Int) (fun rc2 x1 =>
 cond (decide (x1 < (a0.length : Int)))
 (rq ((decide (0 ≤ x1)) && (decide (x1 < (a0.length : Int)))) ((cond (!((a0.getD (Int.toNat x1) dTFile).fDir))
 ((files_above F ((a0.getD (Int.toNat x1) dTFile).fPath) a1).bind fun x4 =>
 some x4)
 (some false) : Option Bool).bind fun x3 =>
 cond x3
 (some 18)
 (rc2 (w64 (x1 + 1)))))
 ((files_parent F a1).bind fun x5 =>
 (files_Find F a0 x5).bind fun x6 =>
 cond (!x6.2)
 (some 8)
 (some 0))) F 0
def files_parentError_s : Shp := ⟨29, [.one (.dat (.lst (.ext 0))), .one (.dat .str)], [], [], ⟨.one (.dat (.int .i64)), [], [], []⟩, none, []⟩
def files_parentError_p : Plan := .seq [] none (.leaf) (.seq [] none (.seq [] none (.leaf) (.loop [] ⟨[(11, .one (.dat (.int .i64)))], [], [], []⟩ (.seq [] none (.leaf) (.seq [] none (.leaf) (.seq [] none (.seq [] none (.leaf) (.seq [] none (.region [(9, ⟨[(23, .one (.dat .bool))], [none], [], []⟩, false)]) (.leaf))) (.leaf)))))) (.leaf))
def files_parentError_c (F : Nat) : Ctr E := ⟨files_parentError_s, fun (x : (List TFile) × (List UInt8)) => files_parentError F x.1 x.2⟩
theorem files_parentError_ok (F : Nat) : (files_parentError_c F).Ok Tryz.prog := Ctr.ok_of (X := ⟨Tryz.prog, tyT, [files_above_c F, files_parent_c F, files_Find_c F]⟩) (F := F) ⟨E_ok, okC (files_above_ok F) (okC (files_parent_ok F) (okC (files_Find_ok F) (okN))), mixed⟩ (pl := files_parentError_p) Tryz.func29 (by kernel_rfl) (fun x => by kernel_rfl)
/- jobshell/files.with -/
def files_with (F : Nat)  (a0 : List TFile) (a1 : TFile) : Option (List TFile) :=
 loopF (σ := Int) (R := List TFile) (fun rc2 x1 =>
 (cond (decide (x1 < (a0.length : Int)))
 (rq ((decide (0 ≤ x1)) && (decide (x1 < (a0.length : Int)))) (some (Op.bytesLess ((a0.getD (Int.toNat x1) dTFile).fPath) a1.fPath)))
 (some false) : Option Bool).bind fun x3 =>
 cond x3
 (rc2 (w64 (x1 + 1)))
 (rq ((decide (0 ≤ x1)) && ((decide (x1 ≤ (a0.length : Int))) && (decide ((a0.length : Int) ≤ (a0.length : Int))))) (((cond (decide (0 < ((sl a0 x1 (a0.length : Int)).length : Int)))
 (rq (decide (0 < ((sl a0 x1 (a0.length : Int)).length : Int))) (some ((((sl a0 x1 (a0.length : Int)).getD 0 dTFile).fPath) == a1.fPath)))
 (some false) : Option Bool).bind fun x5 =>
 cond x5
 (rq ((decide (1 ≤ ((sl a0 x1 (a0.length : Int)).length : Int))) && (decide (((sl a0 x1 (a0.length : Int)).length : Int) ≤ ((sl a0 x1 (a0.length : Int)).length : Int)))) (some (sl (sl a0 x1 (a0.length : Int)) 1 ((sl a0 x1 (a0.length : Int)).length : Int))))
 (some (sl a0 x1 (a0.length : Int))) : Option (List TFile)).bind fun x4 =>
 rq ((decide (0 ≤ w64 ((w64 (x1 + 1)) + (x4.length : Int)))) && ((decide (w64 ((w64 (x1 + 1)) + (x4.length : Int)) ≤ w64 ((w64 (x1 + 1)) + (x4.length : Int)))) && ((decide (0 < w64 ((w64 (x1 + 1)) + (x4.length : Int)))) && ((decide (w64 ((w64 (x1 + 1)) + (x4.length : Int)) ≤ 9223372036854775807)) && (decide ((40 : Int) * (w64 ((w64 (x1 + 1)) + (x4.length : Int))) ≤ 140737488355328)))))) (rq ((decide (0 ≤ x1)) && (decide (x1 ≤ (a0.length : Int)))) (rq ((Nat.blt 0 (List.replicate (Int.toNat (w64 ((w64 (x1 + 1)) + (x4.length : Int)))) (TFile.mk [] false [])).length) && (Nat.ble (sl a0 0 x1).length ((List.replicate (Int.toNat (w64 ((w64 (x1 + 1)) + (x4.length : Int)))) (TFile.mk [] false [])).length))) (rq ((decide (0 ≤ x1)) && (decide (x1 < (((List.replicate (Int.toNat (w64 ((w64 (x1 + 1)) + (x4.length : Int)))) (TFile.mk [] false [])).take 0 ++ (sl a0 0 x1) ++ (List.replicate (Int.toNat (w64 ((w64 (x1 + 1)) + (x4.length : Int)))) (TFile.mk [] false [])).drop (0 + (sl a0 0 x1).length)).length : Int)))) (rq ((Nat.blt 0 (((List.replicate (Int.toNat (w64 ((w64 (x1 + 1)) + (x4.length : Int)))) (TFile.mk [] false [])).take 0 ++ (sl a0 0 x1) ++ (List.replicate (Int.toNat (w64 ((w64 (x1 + 1)) + (x4.length : Int)))) (TFile.mk [] false [])).drop (0 + (sl a0 0 x1).length)).set (Int.toNat x1) a1).length) && ((decide (0 ≤ w64 (x1 + 1))) && ((decide (w64 (x1 + 1) ≤ ((((List.replicate (Int.toNat (w64 ((w64 (x1 + 1)) + (x4.length : Int)))) (TFile.mk [] false [])).take 0 ++ (sl a0 0 x1) ++ (List.replicate (Int.toNat (w64 ((w64 (x1 + 1)) + (x4.length : Int)))) (TFile.mk [] false [])).drop (0 + (sl a0 0 x1).length)).set (Int.toNat x1) a1).length : Int))) && (decide (((((List.replicate (Int.toNat (w64 ((w64 (x1 + 1)) + (x4.length : Int)))) (TFile.mk [] false [])).take 0 ++ (sl a0 0 x1) ++ (List.replicate (Int.toNat (w64 ((w64 (x1 + 1)) + (x4.length : Int)))) (TFile.mk [] false [])).drop (0 + (sl a0 0 x1).length)).set (Int.toNat x1) a1).length : Int) ≤ ((((List.replicate (Int.toNat (w64 ((w64 (x1 + 1)) + (x4.length : Int)))) (TFile.mk [] false [])).take 0 ++ (sl a0 0 x1) ++ (List.replicate (Int.toNat (w64 ((w64 (x1 + 1)) + (x4.length : Int)))) (TFile.mk [] false [])).drop (0 + (sl a0 0 x1).length)).set (Int.toNat x1) a1).length : Int)))))) (rq (Nat.ble x4.length (Int.toNat ((((List.replicate (Int.toNat (w64 ((w64 (x1 + 1)) + (x4.length : Int)))) (TFile.mk [] false [])).take 0 ++ (sl a0 0 x1) ++ (List.replicate (Int.toNat (w64 ((w64 (x1 + 1)) + (x4.length : Int)))) (TFile.mk [] false [])).drop (0 + (sl a0 0 x1).length)).set (Int.toNat x1) a1).length : Int) - Int.toNat (w64 (x1 + 1)))) (some ((((List.replicate (Int.toNat (w64 ((w64 (x1 + 1)) + (x4.length : Int)))) (TFile.mk [] false [])).take 0 ++ (sl a0 0 x1) ++ (List.replicate (Int.toNat (w64 ((w64 (x1 + 1)) + (x4.length : Int)))) (TFile.mk [] false [])).drop (0 + (sl a0 0 x1).length)).set (Int.toNat x1) a1).take (Int.toNat (w64 (x1 + 1))) ++ x4 ++ (((List.replicate (Int.toNat (w64 ((w64 (x1 + 1)) + (x4.length : Int)))) (TFile.mk [] false [])).take 0 ++ (sl a0 0 x1) ++ (List.replicate (Int.toNat (w64 ((w64 (x1 + 1)) + (x4.length : Int)))) (TFile.mk [] false [])).drop (0 + (sl a0 0 x1).length)).set (Int.toNat x1) a1).drop ((Int.toNat (w64 (x1 + 1))) + x4.length))))))))))) F 0
def files_with_s : Shp := ⟨38, [.one (.dat (.lst (.ext 0))), .one (.dat (.ext 0))], [], [], ⟨.one (.dat (.lst (.ext 0))), [], [], []⟩, none, []⟩
def files_with_p : Plan := .seq [] none (.leaf) (.seq [] none (.leaf) (.seq [] none (.loop [] ⟨[(5, .one (.dat (.int .i64)))], [none], [], []⟩ (.seq [] none (.seq [] none (.draw [⟨true, 14, some ⟨[(21, .one (.dat .bool))], [none], [], []⟩⟩]) (.leaf)) (.leaf))) (.seq [] none (.leaf) (.seq [] (some (⟨[(6, .one (.dat (.lst (.ext 0))))], [none], [], []⟩, false)) (.seq [] none (.draw [⟨true, 12, some ⟨[(38, .one (.dat .bool))], [none], [], []⟩⟩]) (.leaf)) (.leaf)))))
def files_with_c (F : Nat) : Ctr E := ⟨files_with_s, fun (x : (List TFile) × TFile) => files_with F x.1 x.2⟩
theorem files_with_ok (F : Nat) : (files_with_c F).Ok Tryz.prog := Ctr.ok_of (X := ⟨Tryz.prog, tyT, []⟩) (F := F) ⟨E_ok, okN, mixed⟩ (pl := files_with_p) Tryz.func38 (by kernel_rfl) (fun x => by kernel_rfl)
/- jobshell/files.Put -/
def files_Put (F : Nat)  (a0 : List TFile) (a1 : List UInt8) (a2 : List UInt8) : Option ((List TFile) × Int) :=
 (files_isPath F a1).bind fun x1 =>
 cond (!x1)
 (some (a0, 10))
 (cond (decide (8192 < (a2.length : Int)))
 (some (a0, 3))
 ((files_Find F a0 a1).bind fun x2 =>
 (cond x2.2
 (some x2.1.fDir)
 (some false) : Option Bool).bind fun x3 =>
 cond x3
 (some (a0, 17))
 ((files_parentError F a0 a1).bind fun x4 =>
 cond (x4 != 0)
 (some (a0, x4))
 ((cond (!x2.2)
 (some (decide (128 ≤ (a0.length : Int))))
 (some false) : Option Bool).bind fun x5 =>
 cond x5
 (some (a0, 4))
 ((files_with F a0 (TFile.mk a1 false a2)).bind fun x6 =>
 some (x6, 0))))))
def files_Put_s : Shp := ⟨18, [.one (.dat (.lst (.ext 0))), .one (.dat .str), .one (.dat .str)], [], [], ⟨.tup [.dat (.lst (.ext 0)), .dat (.int .i64)], [], [], []⟩, none, []⟩
def files_Put_p : Plan := .seq [] none (.leaf) (.seq [] none (.leaf) (.seq [] none (.leaf) (.seq [] none (.seq [] none (.region [(5, ⟨[(31, .one (.dat .bool))], [none], [], []⟩, false)]) (.leaf)) (.seq [] none (.leaf) (.seq [] none (.seq [] none (.region [(7, ⟨[(46, .one (.dat .bool))], [none], [], []⟩, false)]) (.leaf)) (.leaf))))))
def files_Put_c (F : Nat) : Ctr E := ⟨files_Put_s, fun (x : (List TFile) × (List UInt8) × (List UInt8)) => files_Put F x.1 x.2.1 x.2.2⟩
theorem files_Put_ok (F : Nat) : (files_Put_c F).Ok Tryz.prog := Ctr.ok_of (X := ⟨Tryz.prog, tyT, [files_isPath_c F, files_Find_c F, files_parentError_c F, files_with_c F]⟩) (F := F) ⟨E_ok, okC (files_isPath_ok F) (okC (files_Find_ok F) (okC (files_parentError_ok F) (okC (files_with_ok F) (okN)))), mixed⟩ (pl := files_Put_p) Tryz.func18 (by kernel_rfl) (fun x => by kernel_rfl)
/- jobshell/files.Mkdir -/
def files_Mkdir (F : Nat)  (a0 : List TFile) (a1 : List UInt8) : Option ((List TFile) × Int) :=
 (files_isPath F a1).bind fun x1 =>
 cond (!x1)
 (some (a0, 10))
 ((files_Find F a0 a1).bind fun x2 =>
 cond x2.2
 (some (a0, 9))
 ((files_parentError F a0 a1).bind fun x3 =>
 cond (x3 != 0)
 (some (a0, x3))
 (cond (decide (128 ≤ (a0.length : Int)))
 (some (a0, 4))
 ((files_with F a0 (TFile.mk a1 true [])).bind fun x4 =>
 some (x4, 0)))))
def files_Mkdir_s : Shp := ⟨25, [.one (.dat (.lst (.ext 0))), .one (.dat .str)], [], [], ⟨.tup [.dat (.lst (.ext 0)), .dat (.int .i64)], [], [], []⟩, none, []⟩
def files_Mkdir_p : Plan := .leaf
def files_Mkdir_c (F : Nat) : Ctr E := ⟨files_Mkdir_s, fun (x : (List TFile) × (List UInt8)) => files_Mkdir F x.1 x.2⟩
theorem files_Mkdir_ok (F : Nat) : (files_Mkdir_c F).Ok Tryz.prog := Ctr.ok_of (X := ⟨Tryz.prog, tyT, [files_isPath_c F, files_Find_c F, files_parentError_c F, files_with_c F]⟩) (F := F) ⟨E_ok, okC (files_isPath_ok F) (okC (files_Find_ok F) (okC (files_parentError_ok F) (okC (files_with_ok F) (okN)))), mixed⟩ (pl := files_Mkdir_p) Tryz.func25 (by kernel_rfl) (fun x => by kernel_rfl)
/- jobshell/files.List -/
def files_List (F : Nat)  (a0 : List TFile) (a1 : List UInt8) : Option ((List (List UInt8)) × Int) :=
 (files_isPath F a1).bind fun x1 =>
 cond (!x1)
 (some ([], 10))
 ((files_Find F a0 a1).bind fun x2 =>
 cond (!x2.2)
 (some ([], 8))
 (cond (!x2.1.fDir)
 (some ([], 18))
 (loopF (σ := Int × (List (List UInt8))) (R := (List (List UInt8)) × Int) (fun rc4 x3 =>
 cond (decide (x3.1 < (a0.length : Int)))
 (rq ((decide (0 ≤ x3.1)) && (decide (x3.1 < (a0.length : Int)))) ((cond (!(((a0.getD (Int.toNat x3.1) dTFile).fPath) == ([47] : List UInt8)))
 ((files_parent F ((a0.getD (Int.toNat x3.1) dTFile).fPath)).bind fun x6 =>
 some (x6 == a1, x3.2))
 (some (false, x3.2)) : Option (Bool × (List (List UInt8)))).bind fun x5 =>
 cond x5.1
 ((libF F ((a0.getD (Int.toNat x3.1) dTFile).fPath) 47).bind fun x7 =>
 rq ((decide (0 ≤ w64 (x7 + 1))) && ((decide (w64 (x7 + 1) ≤ (((a0.getD (Int.toNat x3.1) dTFile).fPath).length : Int))) && (decide ((((a0.getD (Int.toNat x3.1) dTFile).fPath).length : Int) ≤ (((a0.getD (Int.toNat x3.1) dTFile).fPath).length : Int))))) (rq ((decide (x5.2.length + ([sl ((a0.getD (Int.toNat x3.1) dTFile).fPath) (w64 (x7 + 1)) (((a0.getD (Int.toNat x3.1) dTFile).fPath).length : Int)] : List (List UInt8)).length ≤ 9223372036854775807)) && (decide ((x5.2.length + ([sl ((a0.getD (Int.toNat x3.1) dTFile).fPath) (w64 (x7 + 1)) (((a0.getD (Int.toNat x3.1) dTFile).fPath).length : Int)] : List (List UInt8)).length) * 16 ≤ 140737488355328))) (rc4 (w64 (x3.1 + 1), x5.2 ++ ([sl ((a0.getD (Int.toNat x3.1) dTFile).fPath) (w64 (x7 + 1)) (((a0.getD (Int.toNat x3.1) dTFile).fPath).length : Int)] : List (List UInt8))))))
 (rc4 (w64 (x3.1 + 1), x5.2))))
 ((sortF F x3.2).bind fun x8 =>
 some (x8, 0))) F (0, ([] : List (List UInt8))))))
def files_List_s : Shp := ⟨26, [.one (.dat (.lst (.ext 0))), .one (.dat .str)], [], [], ⟨.tup [.dat (.lst .str), .dat (.int .i64)], [], [], []⟩, none, []⟩
def files_List_p : Plan := .seq [] none (.leaf) (.seq [] none (.leaf) (.seq [] none (.leaf) (.seq [] none (.leaf) (.seq [] none (.leaf) (.seq [] none (.seq [] none (.leaf) (.loop [.soft 8 9 .str] ⟨[(8, .one (.gso 0)), (29, .one (.dat (.int .i64)))], [none], [some (9, 1)], [(0, .str)]⟩ (.seq [] none (.leaf) (.seq [] none (.leaf) (.seq [] none (.seq [] none (.leaf) (.seq [] none (.region [(10, ⟨[(42, .one (.dat .bool))], [none, none], [none], [(0, .str)]⟩, false)]) (.cond (.drawP [1] [] [⟨[(0, true), (1, true), (2, true), (3, true), (4, true), (5, false), (6, false), (7, false), (8, false), (9, false), (10, false)], none⟩]) (.leaf)))) (.leaf)))))) (.leaf))))))
def files_List_c (F : Nat) : Ctr E := ⟨files_List_s, fun (x : (List TFile) × (List UInt8)) => files_List F x.1 x.2⟩
theorem files_List_ok (F : Nat) : (files_List_c F).Ok Tryz.prog := Ctr.ok_of (X := ⟨Tryz.prog, tyT, [files_isPath_c F, files_Find_c F, files_parent_c F, stringsLastIndexByte_c F, slicesSort_c F]⟩) (F := F) ⟨E_ok, okC (files_isPath_ok F) (okC (files_Find_ok F) (okC (files_parent_ok F) (okC (stringsLastIndexByte_ok F) (okC (slicesSort_ok F) (okN))))), mixed⟩ (pl := files_List_p) Tryz.func26 (by kernel_rfl) (fun x => by kernel_rfl)
/- jobshell/files.Valid -/
def files_Valid (F : Nat)  (a0 : List TFile) : Option Int :=
 cond (decide (128 < (a0.length : Int)))
 (some 4)
 ((cond ((a0.length : Int) == 0)
 (some true)
 (rq (decide (0 < (a0.length : Int))) (some (!(((a0.getD 0 dTFile).fPath) == ([47] : List UInt8))))) : Option Bool).bind fun x1 =>
 cond x1
 (some 8)
 (loopF (σ := Int) (R := Int) (fun rc3 x2 =>
 cond (decide (x2 < (a0.length : Int)))
 (rq ((decide (0 ≤ x2)) && (decide (x2 < (a0.length : Int)))) ((files_isPath F ((a0.getD (Int.toNat x2) dTFile).fPath)).bind fun x4 =>
 cond (!x4)
 (some 10)
 (((cond ((a0.getD (Int.toNat x2) dTFile).fDir)
 (some (!(((a0.getD (Int.toNat x2) dTFile).fData) == [])))
 (some false) : Option Bool).bind fun x6 =>
 cond x6
 (some x6)
 ((cond (((a0.getD (Int.toNat x2) dTFile).fPath) == ([47] : List UInt8))
 (some (!((a0.getD (Int.toNat x2) dTFile).fDir)))
 (some false) : Option Bool).bind fun x7 =>
 some x7) : Option Bool).bind fun x5 =>
 cond x5
 (some 1)
 (cond (decide (8192 < (((a0.getD (Int.toNat x2) dTFile).fData).length : Int)))
 (some 3)
 ((cond (decide (0 < x2))
 (rq ((decide (0 ≤ w64 (x2 - 1))) && (decide (w64 (x2 - 1) < (a0.length : Int)))) (some (Op.bytesLess ((a0.getD (Int.toNat x2) dTFile).fPath) ((a0.getD (Int.toNat (w64 (x2 - 1))) dTFile).fPath) || ((a0.getD (Int.toNat x2) dTFile).fPath) == ((a0.getD (Int.toNat (w64 (x2 - 1))) dTFile).fPath))))
 (some false) : Option Bool).bind fun x8 =>
 cond x8
 (some 25)
 (cond (decide (0 < x2))
 (rq ((decide (0 ≤ x2)) && (decide (x2 ≤ (a0.length : Int)))) ((files_parentError F (sl a0 0 x2) ((a0.getD (Int.toNat x2) dTFile).fPath)).bind fun x9 =>
 cond (x9 != 0)
 (some x9)
 (rc3 (w64 (x2 + 1)))))
 (rc3 (w64 (x2 + 1)))))))))
 (some 0)) F 0))
def files_Valid_s : Shp := ⟨15, [.one (.dat (.lst (.ext 0)))], [], [], ⟨.one (.dat (.int .i64)), [], [], []⟩, none, []⟩
def files_Valid_p : Plan := .seq [] none (.leaf) (.seq [] none (.seq [] none (.leaf) (.cond (.leaf) (.seq [] none (.region [(10, ⟨[(20, .one (.dat .bool))], [], [], []⟩, false)]) (.leaf)))) (.seq [] none (.seq [] none (.leaf) (.loop [] ⟨[(23, .one (.dat (.int .i64)))], [], [], []⟩ (.seq [] none (.leaf) (.seq [] none (.leaf) (.seq [] none (.seq [] none (.leaf) (.seq [] none (.seq [] none (.leaf) (.cond (.leaf) (.seq [] (some (⟨[(33, .one (.dat .bool))], [none], [], []⟩, false)) (.seq [] none (.region [(7, ⟨[(40, .one (.dat .bool))], [none], [], []⟩, false)]) (.cond (.leaf) (.region [(8, ⟨[(48, .one (.dat .bool))], [none], [], []⟩, false)]))) (.cond (.leaf) (.seq [] none (.leaf) (.cond (.leaf) (.seq [] none (.draw [⟨true, 14, some ⟨[(54, .one (.dat .bool))], [none], [], []⟩⟩]) (.leaf)))))))) (.seq [] none (.leaf) (.cond (.seq [] none (.draw [⟨true, 5, none⟩, ⟨false, 2, none⟩]) (.leaf)) (.leaf))))) (.leaf)))))) (.leaf)))
def files_Valid_c (F : Nat) : Ctr E := ⟨files_Valid_s, fun (x : List TFile) => files_Valid F x⟩
theorem files_Valid_ok (F : Nat) : (files_Valid_c F).Ok Tryz.prog := Ctr.ok_of (X := ⟨Tryz.prog, tyT, [files_isPath_c F, files_parentError_c F]⟩) (F := F) ⟨E_ok, okC (files_isPath_ok F) (okC (files_parentError_ok F) (okN)), mixed⟩ (pl := files_Valid_p) Tryz.func15 (by kernel_rfl) (fun x => by kernel_rfl)
/- jobshell/jobshelllaw19.awake -/
def law19_awake (F : Nat)   : Option Bool :=
 (files_Clean F ([47, 97, 47, 98] : List UInt8) ([46, 46, 47, 99, 47, 46, 47, 100, 47] : List UInt8)).bind fun x1 =>
 (files_Clean F ([47] : List UInt8) ([46, 46] : List UInt8)).bind fun x2 =>
 (files_Clean F ([47, 97] : List UInt8) []).bind fun x3 =>
 (files_New F).bind fun x4 =>
 (files_Put F x4 ([47, 97] : List UInt8) ([120] : List UInt8)).bind fun x5 =>
 (files_Mkdir F x5.1 ([47, 100] : List UInt8)).bind fun x6 =>
 (files_Put F x5.1 ([47, 97, 47, 98] : List UInt8) []).bind fun x7 =>
 (files_Find F x6.1 ([47, 97] : List UInt8)).bind fun x8 =>
 (files_List F x6.1 ([47] : List UInt8)).bind fun x9 =>
 (cond (x1.1 == ([47, 97, 47, 99, 47, 100] : List UInt8))
 (some (x1.2 == 0))
 (some false) : Option Bool).bind fun x10 =>
 (cond x10
 (some (x2.1 == ([47] : List UInt8)))
 (some false) : Option Bool).bind fun x11 =>
 (cond x11
 (some (x2.2 == 0))
 (some false) : Option Bool).bind fun x12 =>
 (cond x12
 (some (x3.2 == 8))
 (some false) : Option Bool).bind fun x13 =>
 (cond x13
 (some (x5.2 == 0))
 (some false) : Option Bool).bind fun x14 =>
 (cond x14
 (some (x6.2 == 0))
 (some false) : Option Bool).bind fun x15 =>
 (cond x15
 (some (x7.2 == 18))
 (some false) : Option Bool).bind fun x16 =>
 (cond x16
 (some x8.2)
 (some false) : Option Bool).bind fun x17 =>
 (cond x17
 (some (x8.1.fData == ([120] : List UInt8)))
 (some false) : Option Bool).bind fun x18 =>
 (cond x18
 (some (x9.2 == 0))
 (some false) : Option Bool).bind fun x19 =>
 (cond x19
 (some ((x9.1.length : Int) == 2))
 (some false) : Option Bool).bind fun x20 =>
 (cond x20
 (rq (decide (0 < (x9.1.length : Int))) (some ((x9.1.getD 0 []) == ([97] : List UInt8))))
 (some false) : Option Bool).bind fun x21 =>
 (cond x21
 (rq (decide (1 < (x9.1.length : Int))) (some ((x9.1.getD 1 []) == ([100] : List UInt8))))
 (some false) : Option Bool).bind fun x22 =>
 (cond x22
 ((files_Valid F x6.1).bind fun x24 =>
 some (x24 == 0))
 (some false) : Option Bool).bind fun x23 =>
 some x23
def law19_awake_s : Shp := ⟨9, [], [], [], ⟨.one (.dat .bool), [], [], []⟩, none, []⟩
def law19_awake_p : Plan := .seq [] none (.leaf) (.seq [] none (.leaf) (.seq [] none (.leaf) (.seq [] none (.leaf) (.seq [] none (.leaf) (.seq [] none (.leaf) (.seq [] none (.leaf) (.seq [] none (.leaf) (.seq [] none (.leaf) (.seq [] none (.region [(6, ⟨[(59, .one (.dat .bool))], [none], [], []⟩, false), (4, ⟨[(63, .one (.dat .bool))], [none], [], []⟩, false), (4, ⟨[(67, .one (.dat .bool))], [none], [], []⟩, false), (4, ⟨[(71, .one (.dat .bool))], [none], [], []⟩, false), (4, ⟨[(75, .one (.dat .bool))], [none], [], []⟩, false), (4, ⟨[(79, .one (.dat .bool))], [none], [], []⟩, false), (4, ⟨[(83, .one (.dat .bool))], [none], [], []⟩, false), (3, ⟨[(86, .one (.dat .bool))], [none], [], []⟩, false), (5, ⟨[(91, .one (.dat .bool))], [none], [], []⟩, false), (4, ⟨[(95, .one (.dat .bool))], [none], [], []⟩, false), (5, ⟨[(100, .one (.dat .bool))], [none], [], []⟩, false), (6, ⟨[(106, .one (.dat .bool))], [none], [], []⟩, false), (6, ⟨[(112, .one (.dat .bool))], [none], [], []⟩, false), (5, ⟨[(117, .one (.dat .bool))], [none], [], []⟩, false)]) (.leaf))))))))))
def law19_awake_c (F : Nat) : Ctr E := ⟨law19_awake_s, fun (x : Unit) => law19_awake F ⟩
theorem law19_awake_ok (F : Nat) : (law19_awake_c F).Ok Tryz.prog := Ctr.ok_of (X := ⟨Tryz.prog, tyT, [files_Clean_c F, files_New_c F, files_Put_c F, files_Mkdir_c F, files_Find_c F, files_List_c F, files_Valid_c F]⟩) (F := F) ⟨E_ok, okC (files_Clean_ok F) (okC (files_New_ok F) (okC (files_Put_ok F) (okC (files_Mkdir_ok F) (okC (files_Find_ok F) (okC (files_List_ok F) (okC (files_Valid_ok F) (okN))))))), mixed⟩ (pl := law19_awake_p) Tryz.func9 (by kernel_rfl) (fun x => by kernel_rfl)
/- jobshell/files.inside$1 -/
def files_inside_1 (F : Nat)  (a0 : TFile) (a1 : List UInt8) : Option Bool :=
 cond (!(a0.fPath == ([47] : List UInt8)))
 ((files_parent F a0.fPath).bind fun x1 =>
 some (x1 == a1))
 (some false)
def files_inside_1_s : Shp := ⟨50, [.one (.dat (.ext 0)), .one (.ptr 0 0)], [.cells 9 [.dat .str]], [], ⟨.one (.dat .bool), [none], [], []⟩, none, []⟩
def files_inside_1_p : Plan := .seq [] none (.leaf) (.seq [] none (.drawP [0, 1] [] [⟨[(0, true), (1, true), (2, true), (3, true), (4, true), (5, true), (7, true), (6, false), (8, false), (9, false), (10, false)], none⟩]) (.leaf))
def files_inside_1_c (F : Nat) : Ctr E := ⟨files_inside_1_s, fun (x : TFile × (List UInt8)) => files_inside_1 F x.1 x.2⟩
theorem files_inside_1_ok (F : Nat) : (files_inside_1_c F).Ok Tryz.prog := Ctr.ok_of (X := ⟨Tryz.prog, tyT, [files_parent_c F]⟩) (F := F) ⟨E_ok, okC (files_parent_ok F) (okN), mixed⟩ (pl := files_inside_1_p) Tryz.func50 (by kernel_rfl) (fun x => by kernel_rfl)
/- slices.IndexFunc[[]jobshell/api.File,jobshell/api.File] -/
def slices_IndexFunc (F : Nat)  (a0 : List TFile) (a1 : List UInt8) : Option Int :=
 loopF (σ := Int) (R := Int) (fun rc2 x1 =>
 cond (decide (x1 < (a0.length : Int)))
 (rq ((decide (0 ≤ x1)) && (decide (x1 < (a0.length : Int)))) ((files_inside_1 F (a0.getD (Int.toNat x1) dTFile) a1).bind fun x3 =>
 cond x3
 (some x1)
 (rc2 (w64 (x1 + 1)))))
 (some (-1))) F 0
def slices_IndexFunc_s : Shp := ⟨67, [.one (.dat (.lst (.ext 0))), .one (.func 50 [(0, 0)])], [.cells 9 [.dat .str]], [], ⟨.one (.dat (.int .i64)), [none], [], []⟩, none, []⟩
def slices_IndexFunc_p : Plan := .seq [] none (.leaf) (.seq [] none (.seq [] none (.leaf) (.loop [] ⟨[(8, .one (.dat (.int .i64)))], [none], [], []⟩ (.leaf))) (.leaf))
def slices_IndexFunc_c (F : Nat) : Ctr E := ⟨slices_IndexFunc_s, fun (x : (List TFile) × (List UInt8)) => slices_IndexFunc F x.1 x.2⟩
theorem slices_IndexFunc_ok (F : Nat) : (slices_IndexFunc_c F).Ok Tryz.prog := Ctr.ok_of (X := ⟨Tryz.prog, tyT, [files_inside_1_c F]⟩) (F := F) ⟨E_ok, okC (files_inside_1_ok F) (okN), mixed⟩ (pl := slices_IndexFunc_p) Tryz.func67 (by kernel_rfl) (fun x => by kernel_rfl)
/- slices.ContainsFunc[[]jobshell/api.File,jobshell/api.File] -/
def slices_ContainsFunc (F : Nat)  (a0 : List TFile) (a1 : List UInt8) : Option Bool :=
 (slices_IndexFunc F a0 a1).bind fun x1 =>
 some (decide (0 ≤ x1))
def slices_ContainsFunc_s : Shp := ⟨49, [.one (.dat (.lst (.ext 0))), .one (.func 50 [(0, 0)])], [.cells 9 [.dat .str]], [], ⟨.one (.dat .bool), [none], [], []⟩, none, []⟩
def slices_ContainsFunc_p : Plan := .leaf
def slices_ContainsFunc_c (F : Nat) : Ctr E := ⟨slices_ContainsFunc_s, fun (x : (List TFile) × (List UInt8)) => slices_ContainsFunc F x.1 x.2⟩
theorem slices_ContainsFunc_ok (F : Nat) : (slices_ContainsFunc_c F).Ok Tryz.prog := Ctr.ok_of (X := ⟨Tryz.prog, tyT, [slices_IndexFunc_c F]⟩) (F := F) ⟨E_ok, okC (slices_IndexFunc_ok F) (okN), mixed⟩ (pl := slices_ContainsFunc_p) Tryz.func49 (by kernel_rfl) (fun x => by kernel_rfl)
/- jobshell/files.inside -/
def files_inside (F : Nat)  (a0 : List TFile) (a1 : List UInt8) : Option Bool :=
 (slices_ContainsFunc F a0 a1).bind fun x1 =>
 some x1
def files_inside_s : Shp := ⟨30, [.one (.dat (.lst (.ext 0))), .one (.dat .str)], [], [], ⟨.one (.dat .bool), [], [], []⟩, none, []⟩
def files_inside_p : Plan := .leaf
def files_inside_c (F : Nat) : Ctr E := ⟨files_inside_s, fun (x : (List TFile) × (List UInt8)) => files_inside F x.1 x.2⟩
theorem files_inside_ok (F : Nat) : (files_inside_c F).Ok Tryz.prog := Ctr.ok_of (X := ⟨Tryz.prog, tyT, [slices_ContainsFunc_c F]⟩) (F := F) ⟨E_ok, okC (slices_ContainsFunc_ok F) (okN), mixed⟩ (pl := files_inside_p) Tryz.func30 (by kernel_rfl) (fun x => by kernel_rfl)
/- jobshell/files.without$1 -/
def files_without_1 (F : Nat)  (a0 : TFile) (a1 : List UInt8) : Option Bool :=
 some (a0.fPath == a1)
def files_without_1_s : Shp := ⟨58, [.one (.dat (.ext 0)), .one (.ptr 0 0)], [.cells 9 [.dat .str]], [], ⟨.one (.dat .bool), [none], [], []⟩, none, []⟩
def files_without_1_p : Plan := .leaf
def files_without_1_c (F : Nat) : Ctr E := ⟨files_without_1_s, fun (x : TFile × (List UInt8)) => files_without_1 F x.1 x.2⟩
theorem files_without_1_ok (F : Nat) : (files_without_1_c F).Ok Tryz.prog := Ctr.ok_of (X := ⟨Tryz.prog, tyT, []⟩) (F := F) ⟨E_ok, okN, mixed⟩ (pl := files_without_1_p) Tryz.func58 (by kernel_rfl) (fun x => by kernel_rfl)
/- slices.IndexFunc[[]jobshell/api.File,jobshell/api.File] -/
def slices_IndexFunc_1 (F : Nat)  (a0 : List UInt8) (a1 : List TFile) : Option (Int × (List TFile)) :=
 loopF (σ := Int × (List TFile)) (R := Int × (List TFile)) (fun rc2 x1 =>
 cond (decide (x1.1 < (a1.length : Int)))
 (rq ((decide (0 ≤ x1.1)) && (decide (x1.1 < (x1.2.length : Int)))) ((files_without_1 F (x1.2.getD (Int.toNat x1.1) dTFile) a0).bind fun x3 =>
 cond x3
 (some (x1.1, x1.2))
 (rc2 (w64 (x1.1 + 1), x1.2))))
 (some ((-1), x1.2))) F (0, a1)
def slices_IndexFunc_1_s : Shp := ⟨67, [.one (.gso 0), .one (.func 58 [(0, 0)])], [.cells 9 [.dat .str]], [(45, 3)], ⟨.one (.dat (.int .i64)), [none], [none], [(0, (.ext 0))]⟩, none, [(0, (.ext 0))]⟩
def slices_IndexFunc_1_p : Plan := .seq [] none (.leaf) (.seq [] none (.seq [] none (.leaf) (.loop [] ⟨[(8, .one (.dat (.int .i64)))], [none], [none], [(0, (.ext 0))]⟩ (.leaf))) (.leaf))
def slices_IndexFunc_1_c (F : Nat) : Ctr E := ⟨slices_IndexFunc_1_s, fun (x : (List UInt8) × (List TFile)) => slices_IndexFunc_1 F x.1 x.2⟩
theorem slices_IndexFunc_1_ok (F : Nat) : (slices_IndexFunc_1_c F).Ok Tryz.prog := Ctr.ok_of (X := ⟨Tryz.prog, tyT, [files_without_1_c F]⟩) (F := F) ⟨E_ok, okC (files_without_1_ok F) (okN), mixed⟩ (pl := slices_IndexFunc_1_p) Tryz.func67 (by kernel_rfl) (fun x => by kernel_rfl)
/- slices.DeleteFunc[[]jobshell/api.File,jobshell/api.File] -/
def slices_DeleteFunc (F : Nat)  (a0 : List UInt8) (a1 : List TFile) : Option (List TFile) :=
 (slices_IndexFunc_1 F a0 a1).bind fun x1 =>
 cond (x1.1 == (-1))
 (some x1.2)
 (loopF (σ := Int × Int × (List TFile)) (R := List TFile) (fun rc3 x2 =>
 cond (decide (x2.2.1 < (x2.2.2.length : Int)))
 (rq ((decide (0 ≤ x2.2.1)) && (decide (x2.2.1 < (x2.2.2.length : Int)))) ((files_without_1 F (x2.2.2.getD (Int.toNat x2.2.1) dTFile) a0).bind fun x4 =>
 cond (!x4)
 (rq ((decide (0 ≤ x2.1)) && (decide (x2.1 < (x2.2.2.length : Int)))) (rc3 (w64 (x2.1 + 1), w64 (x2.2.1 + 1), x2.2.2.set (Int.toNat x2.1) (x2.2.2.getD (Int.toNat x2.2.1) dTFile))))
 (rc3 (x2.1, w64 (x2.2.1 + 1), x2.2.2))))
 (rq ((Nat.blt 0 x2.2.2.length) && ((decide (0 ≤ x2.1)) && ((decide (x2.1 ≤ (x2.2.2.length : Int))) && (decide ((x2.2.2.length : Int) ≤ (x2.2.2.length : Int)))))) (rq ((decide (0 ≤ x2.1)) && (decide (x2.1 ≤ ((x2.2.2.take (Int.toNat x2.1) ++ List.replicate (Int.toNat (x2.2.2.length : Int) - Int.toNat x2.1) (TFile.mk [] false []) ++ x2.2.2.drop ((Int.toNat x2.1) + (Int.toNat (x2.2.2.length : Int) - Int.toNat x2.1))).length : Int)))) (some ((x2.2.2.take (Int.toNat x2.1) ++ List.replicate (Int.toNat (x2.2.2.length : Int) - Int.toNat x2.1) (TFile.mk [] false []) ++ x2.2.2.drop ((Int.toNat x2.1) + (Int.toNat (x2.2.2.length : Int) - Int.toNat x2.1))).take (Int.toNat x2.1)))))) F (x1.1, w64 (x1.1 + 1), x1.2))
def slices_DeleteFunc_s : Shp := ⟨57, [.one (.gso 0), .one (.func 58 [(0, 0)])], [.cells 9 [.dat .str]], [(45, 3)], ⟨.one (.gso 0), [none], [some (45, 3)], [(0, (.ext 0))]⟩, none, [(0, (.ext 0))]⟩
def slices_DeleteFunc_p : Plan := .seq [] none (.leaf) (.seq [] none (.leaf) (.seq [] none (.leaf) (.seq [] none (.seq [] none (.leaf) (.loop [] ⟨[(5, .one (.dat (.int .i64))), (6, .one (.dat (.int .i64)))], [none], [none], [(0, (.ext 0))]⟩ (.leaf))) (.leaf))))
def slices_DeleteFunc_c (F : Nat) : Ctr E := ⟨slices_DeleteFunc_s, fun (x : (List UInt8) × (List TFile)) => slices_DeleteFunc F x.1 x.2⟩
theorem slices_DeleteFunc_ok (F : Nat) : (slices_DeleteFunc_c F).Ok Tryz.prog := Ctr.ok_of (X := ⟨Tryz.prog, tyT, [slices_IndexFunc_1_c F, files_without_1_c F]⟩) (F := F) ⟨E_ok, okC (slices_IndexFunc_1_ok F) (okC (files_without_1_ok F) (okN)), mixed⟩ (pl := slices_DeleteFunc_p) Tryz.func57 (by kernel_rfl) (fun x => by kernel_rfl)
/- jobshell/files.without -/
def files_without (F : Nat)  (a0 : List TFile) (a1 : List UInt8) : Option (List TFile) :=
 rq ((decide (0 ≤ (a0.length : Int))) && ((decide ((a0.length : Int) ≤ (a0.length : Int))) && ((decide (0 < (a0.length : Int))) && ((decide ((a0.length : Int) ≤ 9223372036854775807)) && (decide ((40 : Int) * (a0.length : Int) ≤ 140737488355328)))))) (rq ((Nat.blt 0 (List.replicate (Int.toNat (a0.length : Int)) (TFile.mk [] false [])).length) && (Nat.ble a0.length ((List.replicate (Int.toNat (a0.length : Int)) (TFile.mk [] false [])).length))) ((slices_DeleteFunc F a1 ((List.replicate (Int.toNat (a0.length : Int)) (TFile.mk [] false [])).take 0 ++ a0 ++ (List.replicate (Int.toNat (a0.length : Int)) (TFile.mk [] false [])).drop (0 + a0.length))).bind fun x1 =>
 some x1))
def files_without_s : Shp := ⟨39, [.one (.dat (.lst (.ext 0))), .one (.dat .str)], [], [], ⟨.one (.gso 0), [], [some (45, 3)], [(0, (.ext 0))]⟩, none, []⟩
def files_without_p : Plan := .leaf
def files_without_c (F : Nat) : Ctr E := ⟨files_without_s, fun (x : (List TFile) × (List UInt8)) => files_without F x.1 x.2⟩
theorem files_without_ok (F : Nat) : (files_without_c F).Ok Tryz.prog := Ctr.ok_of (X := ⟨Tryz.prog, tyT, [slices_DeleteFunc_c F]⟩) (F := F) ⟨E_ok, okC (slices_DeleteFunc_ok F) (okN), mixed⟩ (pl := files_without_p) Tryz.func39 (by kernel_rfl) (fun x => by kernel_rfl)
/- jobshell/files.move -/
def files_move (F : Nat)  (a0 : List TFile) (a1 : List UInt8) (a2 : List UInt8) : Option ((List TFile) × Int) :=
 (files_without F a0 a2).bind fun x1 =>
 loopF (σ := Int × (List TFile)) (R := (List TFile) × Int) (fun rc3 x2 =>
 cond (decide (x2.1 < (x1.length : Int)))
 (rq ((decide (0 ≤ x2.1)) && (decide (x2.1 < (x2.2.length : Int)))) ((cond (!(((x2.2.getD (Int.toNat x2.1) dTFile).fPath) == a1))
 ((files_above F a1 ((x2.2.getD (Int.toNat x2.1) dTFile).fPath)).bind fun x5 =>
 some (!x5, x2.2))
 (some (false, x2.2)) : Option (Bool × (List TFile))).bind fun x4 =>
 cond x4.1
 (rc3 (w64 (x2.1 + 1), x4.2))
 (rq ((decide (0 ≤ (a1.length : Int))) && ((decide ((a1.length : Int) ≤ (((x2.2.getD (Int.toNat x2.1) dTFile).fPath).length : Int))) && (decide ((((x2.2.getD (Int.toNat x2.1) dTFile).fPath).length : Int) ≤ (((x2.2.getD (Int.toNat x2.1) dTFile).fPath).length : Int))))) (rq (decide (a2.length + (sl ((x2.2.getD (Int.toNat x2.1) dTFile).fPath) (a1.length : Int) (((x2.2.getD (Int.toNat x2.1) dTFile).fPath).length : Int)).length ≤ 9223372036854775807)) (rq ((decide (0 ≤ x2.1)) && (decide (x2.1 < (x4.2.length : Int)))) (rq ((decide (0 ≤ x2.1)) && (decide (x2.1 < ((x4.2.set (Int.toNat x2.1) (TFile.mk (a2 ++ (sl ((x2.2.getD (Int.toNat x2.1) dTFile).fPath) (a1.length : Int) (((x2.2.getD (Int.toNat x2.1) dTFile).fPath).length : Int))) ((x4.2.getD (Int.toNat x2.1) dTFile).fDir) ((x4.2.getD (Int.toNat x2.1) dTFile).fData))).length : Int)))) (cond (decide (128 < ((((x4.2.set (Int.toNat x2.1) (TFile.mk (a2 ++ (sl ((x2.2.getD (Int.toNat x2.1) dTFile).fPath) (a1.length : Int) (((x2.2.getD (Int.toNat x2.1) dTFile).fPath).length : Int))) ((x4.2.getD (Int.toNat x2.1) dTFile).fDir) ((x4.2.getD (Int.toNat x2.1) dTFile).fData))).getD (Int.toNat x2.1) dTFile).fPath).length : Int)))
 (some (a0, 3))
 (rc3 (w64 (x2.1 + 1), x4.2.set (Int.toNat x2.1) (TFile.mk (a2 ++ (sl ((x2.2.getD (Int.toNat x2.1) dTFile).fPath) (a1.length : Int) (((x2.2.getD (Int.toNat x2.1) dTFile).fPath).length : Int))) ((x4.2.getD (Int.toNat x2.1) dTFile).fDir) ((x4.2.getD (Int.toNat x2.1) dTFile).fData)))))))))))
 ((sfF keyF F x2.2).bind fun x6 =>
 some (x6, 0))) F (0, x1)
def files_move_s : Shp := ⟨31, [.one (.dat (.lst (.ext 0))), .one (.dat .str), .one (.dat .str)], [], [], ⟨.tup [.dat (.lst (.ext 0)), .dat (.int .i64)], [], [], []⟩, none, []⟩
def files_move_p : Plan := .seq [] none (.leaf) (.seq [] none (.leaf) (.seq [] none (.seq [] none (.leaf) (.loop [.soft 6 45 (.ext 0)] ⟨[(16, .one (.dat (.int .i64)))], [], [none, none], [(0, (.ext 0))]⟩ (.seq [] none (.leaf) (.seq [] none (.leaf) (.seq [] none (.seq [] none (.leaf) (.seq [] none (.seq [] none (.region [(11, ⟨[(31, .one (.dat .bool))], [none], [none, none], [(0, (.ext 0))]⟩, false)]) (.leaf)) (.leaf))) (.leaf)))))) (.leaf)))
def files_move_c (F : Nat) : Ctr E := ⟨files_move_s, fun (x : (List TFile) × (List UInt8) × (List UInt8)) => files_move F x.1 x.2.1 x.2.2⟩
theorem files_move_ok (F : Nat) : (files_move_c F).Ok Tryz.prog := Ctr.ok_of (X := ⟨Tryz.prog, tyT, [files_without_c F, files_above_c F, slicesSortFunc_c F]⟩) (F := F) ⟨E_ok, okC (files_without_ok F) (okC (files_above_ok F) (okC (slicesSortFunc_ok F) (okN))), mixed⟩ (pl := files_move_p) Tryz.func31 (by kernel_rfl) (fun x => by kernel_rfl)
/- jobshell/files.Rename -/
def files_Rename (F : Nat)  (a0 : List TFile) (a1 : List UInt8) (a2 : List UInt8) : Option ((List TFile) × Int) :=
 ((files_isPath F a1).bind fun x2 =>
 cond (!x2)
 (some true)
 ((files_isPath F a2).bind fun x3 =>
 some (!x3)) : Option Bool).bind fun x1 =>
 cond x1
 (some (a0, 10))
 ((cond (a1 == ([47] : List UInt8))
 (some true)
 (some (a2 == ([47] : List UInt8))) : Option Bool).bind fun x4 =>
 cond x4
 (some (a0, 23))
 ((files_Find F a0 a1).bind fun x5 =>
 cond (!x5.2)
 (some (a0, 8))
 (cond (a1 == a2)
 (some (a0, 0))
 ((files_above F a1 a2).bind fun x6 =>
 cond x6
 (some (a0, 1))
 ((files_parentError F a0 a2).bind fun x7 =>
 cond (x7 != 0)
 (some (a0, x7))
 (jj (σ := Unit) (R := (List TFile) × Int) ((files_Find F a0 a2).bind fun x9 =>
 cond x9.2
 ((cond x9.1.fDir
 (some (!x5.1.fDir))
 (some false) : Option Bool).bind fun x10 =>
 cond x10
 (some (.inr (a0, 17)))
 ((cond x5.1.fDir
 (some (!x9.1.fDir))
 (some false) : Option Bool).bind fun x11 =>
 cond x11
 (some (.inr (a0, 18)))
 ((files_inside F a0 a2).bind fun x12 =>
 cond x12
 (some (.inr (a0, 19)))
 (some (.inl ())))))
 (some (.inl ()))) fun _ =>
 (files_move F a0 a1 a2).bind fun x13 =>
 some (x13.1, x13.2)))))))
def files_Rename_s : Shp := ⟨10, [.one (.dat (.lst (.ext 0))), .one (.dat .str), .one (.dat .str)], [], [], ⟨.tup [.dat (.lst (.ext 0)), .dat (.int .i64)], [], [], []⟩, none, []⟩
def files_Rename_p : Plan := .seq [] none (.leaf) (.seq [] none (.seq [] none (.region [(8, ⟨[(21, .one (.dat .bool))], [], [], []⟩, false)]) (.cond (.leaf) (.seq [] none (.region [(6, ⟨[(29, .one (.dat .bool))], [], [], []⟩, false)]) (.leaf)))) (.seq [] none (.leaf) (.seq [] none (.leaf) (.seq [] none (.leaf) (.seq [] (some (⟨[], [none], [], []⟩, true)) (.seq [] none (.leaf) (.seq [] none (.leaf) (.cond (.seq [] none (.region [(7, ⟨[(72, .one (.dat .bool))], [none, none], [], []⟩, false)]) (.cond (.leaf) (.seq [] none (.region [(7, ⟨[(81, .one (.dat .bool))], [none, none], [], []⟩, false)]) (.leaf)))) (.leaf)))) (.leaf))))))
def files_Rename_c (F : Nat) : Ctr E := ⟨files_Rename_s, fun (x : (List TFile) × (List UInt8) × (List UInt8)) => files_Rename F x.1 x.2.1 x.2.2⟩
theorem files_Rename_ok (F : Nat) : (files_Rename_c F).Ok Tryz.prog := Ctr.ok_of (X := ⟨Tryz.prog, tyT, [files_isPath_c F, files_Find_c F, files_above_c F, files_parentError_c F, files_inside_c F, files_move_c F]⟩) (F := F) ⟨E_ok, okC (files_isPath_ok F) (okC (files_Find_ok F) (okC (files_above_ok F) (okC (files_parentError_ok F) (okC (files_inside_ok F) (okC (files_move_ok F) (okN)))))), mixed⟩ (pl := files_Rename_p) Tryz.func10 (by kernel_rfl) (fun x => by kernel_rfl)
/- jobshell/jobshellref19.holds -/
def ref19_holds (F : Nat)  (a0 : List TFile) (a1 : List UInt8) : Option Bool :=
 loopF (σ := Int) (R := Bool) (fun rc2 x1 =>
 cond (decide (x1 < (a0.length : Int)))
 ((rq ((decide (0 ≤ x1)) && (decide (x1 < (a0.length : Int)))) (cond (!(((a0.getD (Int.toNat x1) dTFile).fPath) == ([47] : List UInt8)))
 (rq ((decide (0 ≤ x1)) && (decide (x1 < (a0.length : Int)))) ((ref19_Parent F ((a0.getD (Int.toNat x1) dTFile).fPath)).bind fun x4 =>
 some (x4 == a1)))
 (some false)) : Option Bool).bind fun x3 =>
 cond x3
 (some true)
 (rc2 (w64 (x1 + 1))))
 (some false)) F 0
def ref19_holds_s : Shp := ⟨54, [.one (.dat (.lst (.ext 0))), .one (.dat .str)], [], [], ⟨.one (.dat .bool), [], [], []⟩, none, []⟩
def ref19_holds_p : Plan := .seq [] none (.leaf) (.seq [] none (.seq [] none (.leaf) (.loop [] ⟨[(5, .one (.dat (.int .i64)))], [], [], []⟩ (.seq [] none (.leaf) (.seq [] none (.seq [] none (.region [(16, ⟨[(27, .one (.dat .bool))], [], [], []⟩, false)]) (.leaf)) (.leaf))))) (.leaf))
def ref19_holds_c (F : Nat) : Ctr E := ⟨ref19_holds_s, fun (x : (List TFile) × (List UInt8)) => ref19_holds F x.1 x.2⟩
theorem ref19_holds_ok (F : Nat) : (ref19_holds_c F).Ok Tryz.prog := Ctr.ok_of (X := ⟨Tryz.prog, tyT, [ref19_Parent_c F]⟩) (F := F) ⟨E_ok, okC (ref19_Parent_ok F) (okN), mixed⟩ (pl := ref19_holds_p) Tryz.func54 (by kernel_rfl) (fun x => by kernel_rfl)
/- jobshell/jobshellref19.replaces -/
def ref19_replaces (F : Nat)  (a0 : List TFile) (a1 : List UInt8) (a2 : List UInt8) : Option Int :=
 (ref19_find F a0 a1).bind fun x1 =>
 (ref19_find F a0 a2).bind fun x2 =>
 cond (decide (x2 < 0))
 (some 0)
 ((rq ((decide (0 ≤ x2)) && (decide (x2 < (a0.length : Int)))) (cond ((a0.getD (Int.toNat x2) dTFile).fDir)
 (rq ((decide (0 ≤ x1)) && (decide (x1 < (a0.length : Int)))) (some (!((a0.getD (Int.toNat x1) dTFile).fDir))))
 (some false)) : Option Bool).bind fun x3 =>
 cond x3
 (some 17)
 ((rq ((decide (0 ≤ x1)) && (decide (x1 < (a0.length : Int)))) (cond ((a0.getD (Int.toNat x1) dTFile).fDir)
 (rq ((decide (0 ≤ x2)) && (decide (x2 < (a0.length : Int)))) (some (!((a0.getD (Int.toNat x2) dTFile).fDir))))
 (some false)) : Option Bool).bind fun x4 =>
 cond x4
 (some 18)
 ((ref19_holds F a0 a2).bind fun x5 =>
 cond x5
 (some 19)
 (some 0))))
def ref19_replaces_s : Shp := ⟨34, [.one (.dat (.lst (.ext 0))), .one (.dat .str), .one (.dat .str)], [], [], ⟨.one (.dat (.int .i64)), [], [], []⟩, none, []⟩
def ref19_replaces_p : Plan := .seq [] none (.leaf) (.seq [] none (.leaf) (.seq [] none (.leaf) (.seq [] none (.seq [] none (.region [(13, ⟨[(29, .one (.dat .bool))], [], [], []⟩, false)]) (.leaf)) (.seq [] none (.seq [] none (.region [(13, ⟨[(42, .one (.dat .bool))], [], [], []⟩, false)]) (.leaf)) (.leaf)))))
def ref19_replaces_c (F : Nat) : Ctr E := ⟨ref19_replaces_s, fun (x : (List TFile) × (List UInt8) × (List UInt8)) => ref19_replaces F x.1 x.2.1 x.2.2⟩
theorem ref19_replaces_ok (F : Nat) : (ref19_replaces_c F).Ok Tryz.prog := Ctr.ok_of (X := ⟨Tryz.prog, tyT, [ref19_find_c F, ref19_holds_c F]⟩) (F := F) ⟨E_ok, okC (ref19_find_ok F) (okC (ref19_holds_ok F) (okN)), mixed⟩ (pl := ref19_replaces_p) Tryz.func34 (by kernel_rfl) (fun x => by kernel_rfl)
/- jobshell/jobshellref19.insert -/
def ref19_insert (F : Nat)  (a0 : List TFile) (a1 : TFile) : Option (List TFile) :=
 loopF (σ := (List TFile) × Bool × Int) (R := List TFile) (fun rc2 x1 =>
 cond (decide (x1.2.2 < (a0.length : Int)))
 (((cond (!x1.2.1)
 (rq ((decide (0 ≤ x1.2.2)) && (decide (x1.2.2 < (a0.length : Int)))) (some (!(Op.bytesLess ((a0.getD (Int.toNat x1.2.2) dTFile).fPath) a1.fPath || ((a0.getD (Int.toNat x1.2.2) dTFile).fPath) == a1.fPath))))
 (some false) : Option Bool).bind fun x4 =>
 cond x4
 (rq ((decide (x1.1.length + ([a1] : List TFile).length ≤ 9223372036854775807)) && (decide ((x1.1.length + ([a1] : List TFile).length) * 40 ≤ 140737488355328))) (some (x1.1 ++ ([a1] : List TFile), true)))
 (some (x1.1, x1.2.1)) : Option ((List TFile) × Bool)).bind fun x3 =>
 rq ((decide (0 ≤ x1.2.2)) && (decide (x1.2.2 < (a0.length : Int)))) (rq ((decide (x3.1.length + ([a0.getD (Int.toNat x1.2.2) dTFile] : List TFile).length ≤ 9223372036854775807)) && (decide ((x3.1.length + ([a0.getD (Int.toNat x1.2.2) dTFile] : List TFile).length) * 40 ≤ 140737488355328))) (rc2 (x3.1 ++ ([a0.getD (Int.toNat x1.2.2) dTFile] : List TFile), x3.2, w64 (x1.2.2 + 1)))))
 (cond (!x1.2.1)
 (rq ((decide (x1.1.length + ([a1] : List TFile).length ≤ 9223372036854775807)) && (decide ((x1.1.length + ([a1] : List TFile).length) * 40 ≤ 140737488355328))) (some (x1.1 ++ ([a1] : List TFile))))
 (some x1.1))) F (([] : List TFile), false, 0)
def ref19_insert_s : Shp := ⟨35, [.one (.dat (.lst (.ext 0))), .one (.dat (.ext 0))], [], [], ⟨.one (.dat (.lst (.ext 0))), [], [], []⟩, none, []⟩
def ref19_insert_p : Plan := .seq [] none (.leaf) (.seq [] none (.leaf) (.seq [.slot 5 45 (.ext 0)] none (.leaf) (.seq [] none (.seq [] none (.leaf) (.loop [] ⟨[(5, .one (.gsl 0 (.ext 0))), (6, .one (.dat .bool)), (7, .one (.dat (.int .i64)))], [none], [some (45, 3)], []⟩ (.seq [] none (.leaf) (.seq [] none (.seq [] (some (⟨[(5, .one (.gsl 0 (.ext 0))), (6, .one (.dat .bool))], [none], [some (45, 3)], []⟩, false)) (.seq [] none (.draw [⟨true, 12, some ⟨[(25, .one (.dat .bool))], [none], [none], []⟩⟩]) (.leaf)) (.leaf)) (.leaf))))) (.leaf))))
def ref19_insert_c (F : Nat) : Ctr E := ⟨ref19_insert_s, fun (x : (List TFile) × TFile) => ref19_insert F x.1 x.2⟩
theorem ref19_insert_ok (F : Nat) : (ref19_insert_c F).Ok Tryz.prog := Ctr.ok_of (X := ⟨Tryz.prog, tyT, []⟩) (F := F) ⟨E_ok, okN, mixed⟩ (pl := ref19_insert_p) Tryz.func35 (by kernel_rfl) (fun x => by kernel_rfl)
/- jobshell/jobshellref19.Rename -/
def ref19_Rename (F : Nat)  (a0 : List TFile) (a1 : List UInt8) (a2 : List UInt8) : Option ((List TFile) × Int) :=
 ((ref19_IsPath F a1).bind fun x2 =>
 cond (!x2)
 (some true)
 ((ref19_IsPath F a2).bind fun x3 =>
 some (!x3)) : Option Bool).bind fun x1 =>
 cond x1
 (some (a0, 10))
 ((cond (a1 == ([47] : List UInt8))
 (some true)
 (some (a2 == ([47] : List UInt8))) : Option Bool).bind fun x4 =>
 cond x4
 (some (a0, 23))
 ((ref19_find F a0 a1).bind fun x5 =>
 cond (decide (x5 < 0))
 (some (a0, 8))
 (cond (a1 == a2)
 (some (a0, 0))
 ((ref19_Above F a1 a2).bind fun x6 =>
 cond x6
 (some (a0, 1))
 ((ref19_parent F a0 a2).bind fun x7 =>
 cond (x7 != 0)
 (some (a0, x7))
 ((ref19_replaces F a0 a1 a2).bind fun x8 =>
 cond (x8 != 0)
 (some (a0, x8))
 (loopF (σ := (List TFile) × (List TFile) × Int) (R := (List TFile) × Int) (fun rc10 x9 =>
 cond (decide (x9.2.2 < (a0.length : Int)))
 (rq ((decide (0 ≤ x9.2.2)) && (decide (x9.2.2 < (a0.length : Int)))) ((cond (((a0.getD (Int.toNat x9.2.2) dTFile).fPath) == a1)
 (some true)
 ((ref19_Above F a1 ((a0.getD (Int.toNat x9.2.2) dTFile).fPath)).bind fun x12 =>
 some x12) : Option Bool).bind fun x11 =>
 cond x11
 (rq ((decide (0 ≤ (a1.length : Int))) && ((decide ((a1.length : Int) ≤ (((a0.getD (Int.toNat x9.2.2) dTFile).fPath).length : Int))) && (decide ((((a0.getD (Int.toNat x9.2.2) dTFile).fPath).length : Int) ≤ (((a0.getD (Int.toNat x9.2.2) dTFile).fPath).length : Int))))) (rq (decide (a2.length + (sl ((a0.getD (Int.toNat x9.2.2) dTFile).fPath) (a1.length : Int) (((a0.getD (Int.toNat x9.2.2) dTFile).fPath).length : Int)).length ≤ 9223372036854775807)) (cond (decide (128 < ((a2 ++ (sl ((a0.getD (Int.toNat x9.2.2) dTFile).fPath) (a1.length : Int) (((a0.getD (Int.toNat x9.2.2) dTFile).fPath).length : Int))).length : Int)))
 (some (a0, 3))
 (rq ((decide (x9.2.1.length + ([(TFile.mk (a2 ++ (sl ((a0.getD (Int.toNat x9.2.2) dTFile).fPath) (a1.length : Int) (((a0.getD (Int.toNat x9.2.2) dTFile).fPath).length : Int))) ((a0.getD (Int.toNat x9.2.2) dTFile).fDir) ((a0.getD (Int.toNat x9.2.2) dTFile).fData))] : List TFile).length ≤ 9223372036854775807)) && (decide ((x9.2.1.length + ([(TFile.mk (a2 ++ (sl ((a0.getD (Int.toNat x9.2.2) dTFile).fPath) (a1.length : Int) (((a0.getD (Int.toNat x9.2.2) dTFile).fPath).length : Int))) ((a0.getD (Int.toNat x9.2.2) dTFile).fDir) ((a0.getD (Int.toNat x9.2.2) dTFile).fData))] : List TFile).length) * 40 ≤ 140737488355328))) (rc10 (x9.1, x9.2.1 ++ ([(TFile.mk (a2 ++ (sl ((a0.getD (Int.toNat x9.2.2) dTFile).fPath) (a1.length : Int) (((a0.getD (Int.toNat x9.2.2) dTFile).fPath).length : Int))) ((a0.getD (Int.toNat x9.2.2) dTFile).fDir) ((a0.getD (Int.toNat x9.2.2) dTFile).fData))] : List TFile), w64 (x9.2.2 + 1)))))))
 (cond (!(((a0.getD (Int.toNat x9.2.2) dTFile).fPath) == a2))
 (rq ((decide (x9.1.length + ([(a0.getD (Int.toNat x9.2.2) dTFile)] : List TFile).length ≤ 9223372036854775807)) && (decide ((x9.1.length + ([(a0.getD (Int.toNat x9.2.2) dTFile)] : List TFile).length) * 40 ≤ 140737488355328))) (rc10 (x9.1 ++ ([(a0.getD (Int.toNat x9.2.2) dTFile)] : List TFile), x9.2.1, w64 (x9.2.2 + 1))))
 (rc10 (x9.1, x9.2.1, w64 (x9.2.2 + 1))))))
 (loopF (σ := (List TFile) × Int) (R := (List TFile) × Int) (fun rc14 x13 =>
 cond (decide (x13.2 < (x9.2.1.length : Int)))
 (rq ((decide (0 ≤ x13.2)) && (decide (x13.2 < (x9.2.1.length : Int)))) ((ref19_insert F x13.1 (x9.2.1.getD (Int.toNat x13.2) dTFile)).bind fun x15 =>
 rc14 (x15, w64 (x13.2 + 1))))
 (some (x13.1, 0))) F (x9.1, 0))) F (([] : List TFile), ([] : List TFile), 0))))))))
def ref19_Rename_s : Shp := ⟨11, [.one (.dat (.lst (.ext 0))), .one (.dat .str), .one (.dat .str)], [], [], ⟨.tup [.dat (.lst (.ext 0)), .dat (.int .i64)], [], [], []⟩, none, []⟩
def ref19_Rename_p : Plan := .seq [] none (.leaf) (.seq [] none (.seq [] none (.region [(8, ⟨[(21, .one (.dat .bool))], [], [], []⟩, false)]) (.leaf)) (.seq [] none (.seq [] none (.region [(6, ⟨[(28, .one (.dat .bool))], [], [], []⟩, false)]) (.leaf)) (.seq [] none (.leaf) (.seq [] none (.leaf) (.seq [] none (.leaf) (.seq [] none (.leaf) (.seq [] none (.leaf) (.seq [] none (.leaf) (.seq [] none (.leaf) (.seq [] none (.leaf) (.seq [.slot 9 45 (.ext 0), .slot 10 45 (.ext 0)] none (.seq [] none (.leaf) (.loop [] ⟨[(9, .one (.gsl 0 (.ext 0))), (10, .one (.gsl 1 (.ext 0))), (11, .one (.dat (.int .i64)))], [], [some (45, 3), some (45, 3)], []⟩ (.seq [] none (.leaf) (.seq [] none (.seq [] none (.leaf) (.seq [] none (.region [(10, ⟨[(77, .one (.dat .bool))], [none], [none, none], []⟩, false)]) (.leaf))) (.leaf))))) (.seq [] none (.seq [] none (.leaf) (.loop [] ⟨[(9, .one (.dat (.lst (.ext 0)))), (13, .one (.dat (.int .i64)))], [], [none, none], []⟩ (.leaf))) (.leaf)))))))))))))
def ref19_Rename_c (F : Nat) : Ctr E := ⟨ref19_Rename_s, fun (x : (List TFile) × (List UInt8) × (List UInt8)) => ref19_Rename F x.1 x.2.1 x.2.2⟩
theorem ref19_Rename_ok (F : Nat) : (ref19_Rename_c F).Ok Tryz.prog := Ctr.ok_of (X := ⟨Tryz.prog, tyT, [ref19_IsPath_c F, ref19_find_c F, ref19_Above_c F, ref19_parent_c F, ref19_replaces_c F, ref19_insert_c F]⟩) (F := F) ⟨E_ok, okC (ref19_IsPath_ok F) (okC (ref19_find_ok F) (okC (ref19_Above_ok F) (okC (ref19_parent_ok F) (okC (ref19_replaces_ok F) (okC (ref19_insert_ok F) (okN)))))), mixed⟩ (pl := ref19_Rename_p) Tryz.func11 (by kernel_rfl) (fun x => by kernel_rfl)
/- jobshell/jobshellref19.Same -/
def ref19_Same (F : Nat)  (a0 : List TFile) (a1 : List TFile) : Option Bool :=
 cond ((a0.length : Int) != (a1.length : Int))
 (some false)
 (loopF (σ := Int) (R := Bool) (fun rc2 x1 =>
 cond (decide (x1 < (a0.length : Int)))
 (rq ((decide (0 ≤ x1)) && (decide (x1 < (a0.length : Int)))) (rq ((decide (0 ≤ x1)) && (decide (x1 < (a1.length : Int)))) (cond (!(((a0.getD (Int.toNat x1) dTFile).fPath == (a1.getD (Int.toNat x1) dTFile).fPath) && (((a0.getD (Int.toNat x1) dTFile).fDir == (a1.getD (Int.toNat x1) dTFile).fDir) && (((a0.getD (Int.toNat x1) dTFile).fData == (a1.getD (Int.toNat x1) dTFile).fData) && true))))
 (some false)
 (rc2 (w64 (x1 + 1))))))
 (some true)) F 0)
def ref19_Same_s : Shp := ⟨12, [.one (.dat (.lst (.ext 0))), .one (.dat (.lst (.ext 0)))], [], [], ⟨.one (.dat .bool), [], [], []⟩, none, []⟩
def ref19_Same_p : Plan := .seq [] none (.leaf) (.seq [] none (.leaf) (.seq [] none (.seq [] none (.leaf) (.loop [] ⟨[(5, .one (.dat (.int .i64)))], [], [], []⟩ (.seq [] none (.leaf) (.seq [] none (.seq [] none (.draw [⟨true, 9, none⟩]) (.leaf)) (.leaf))))) (.leaf)))
def ref19_Same_c (F : Nat) : Ctr E := ⟨ref19_Same_s, fun (x : (List TFile) × (List TFile)) => ref19_Same F x.1 x.2⟩
theorem ref19_Same_ok (F : Nat) : (ref19_Same_c F).Ok Tryz.prog := Ctr.ok_of (X := ⟨Tryz.prog, tyT, []⟩) (F := F) ⟨E_ok, okN, mixed⟩ (pl := ref19_Same_p) Tryz.func12 (by kernel_rfl) (fun x => by kernel_rfl)
/- jobshell/jobshelllaw19.FilesRenames -/
def law19_FilesRenames (F : Nat)  (a0 : List TFile) (a1 : List UInt8) (a2 : List UInt8) : Option Bool :=
 ((ref19_Small F a0).bind fun x2 =>
 cond (!x2)
 (some true)
 ((law19_short F a1 a2).bind fun x3 =>
 some (!x3)) : Option Bool).bind fun x1 =>
 (cond x1
 (some true)
 ((ref19_Valid F a0).bind fun x5 =>
 some (x5 != 0)) : Option Bool).bind fun x4 =>
 cond x4
 ((law19_awake 60).bind fun x6 =>
 some x6)
 ((files_Rename F a0 a1 a2).bind fun x7 =>
 (ref19_Rename F a0 a1 a2).bind fun x8 =>
 ((ref19_Same F x7.1 x8.1).bind fun x10 =>
 cond x10
 (some (x7.2 == x8.2))
 (some false) : Option Bool).bind fun x9 =>
 (cond x9
 ((law19_awake 60).bind fun x12 =>
 some x12)
 (some false) : Option Bool).bind fun x11 =>
 some x11)
def law19_FilesRenames_s : Shp := ⟨3, [.one (.dat (.lst (.ext 0))), .one (.dat .str), .one (.dat .str)], [], [], ⟨.one (.dat .bool), [], [], []⟩, none, []⟩
def law19_FilesRenames_p : Plan := .seq [] none (.leaf) (.seq [] none (.seq [] none (.region [(9, ⟨[(19, .one (.dat .bool))], [], [], []⟩, false), (5, ⟨[(24, .one (.dat .bool))], [], [], []⟩, false)]) (.leaf)) (.seq [] none (.leaf) (.seq [] none (.leaf) (.seq [] none (.region [(8, ⟨[(47, .one (.dat .bool))], [], [], []⟩, false), (3, ⟨[(50, .one (.dat .bool))], [], [], []⟩, false)]) (.leaf)))))
def law19_FilesRenames_c (F : Nat) : Ctr E := ⟨law19_FilesRenames_s, fun (x : (List TFile) × (List UInt8) × (List UInt8)) => law19_FilesRenames F x.1 x.2.1 x.2.2⟩
theorem law19_FilesRenames_ok (F : Nat) : (law19_FilesRenames_c F).Ok Tryz.prog := Ctr.ok_of (X := ⟨Tryz.prog, tyT, [ref19_Small_c F, law19_short_c F, ref19_Valid_c F, law19_awake_c 60, files_Rename_c F, ref19_Rename_c F, ref19_Same_c F]⟩) (F := F) ⟨E_ok, okC (ref19_Small_ok F) (okC (law19_short_ok F) (okC (ref19_Valid_ok F) (okC (law19_awake_ok 60) (okC (files_Rename_ok F) (okC (ref19_Rename_ok F) (okC (ref19_Same_ok F) (okN))))))), mixed⟩ (pl := law19_FilesRenames_p) Tryz.func3 (by kernel_rfl) (fun x => by kernel_rfl)
/- jobshell/jobshelllaw19.clean -/
def law19_clean (F : Nat)  (a0 : List UInt8) : Option (List UInt8) :=
 (files_Clean F ([47] : List UInt8) a0).bind fun x1 =>
 cond (x1.2 != 0)
 (some a0)
 (some x1.1)
def law19_clean_s : Shp := ⟨36, [.one (.dat .str)], [], [], ⟨.one (.dat .str), [], [], []⟩, none, []⟩
def law19_clean_p : Plan := .leaf
def law19_clean_c (F : Nat) : Ctr E := ⟨law19_clean_s, fun (x : List UInt8) => law19_clean F x⟩
theorem law19_clean_ok (F : Nat) : (law19_clean_c F).Ok Tryz.prog := Ctr.ok_of (X := ⟨Tryz.prog, tyT, [files_Clean_c F]⟩) (F := F) ⟨E_ok, okC (files_Clean_ok F) (okN), mixed⟩ (pl := law19_clean_p) Tryz.func36 (by kernel_rfl) (fun x => by kernel_rfl)
/- jobshell/files.Remove -/
def files_Remove (F : Nat)  (a0 : List TFile) (a1 : List UInt8) : Option ((List TFile) × Int) :=
 (files_isPath F a1).bind fun x1 =>
 cond (!x1)
 (some (a0, 10))
 (cond (a1 == ([47] : List UInt8))
 (some (a0, 23))
 ((files_Find F a0 a1).bind fun x2 =>
 cond (!x2.2)
 (some (a0, 8))
 ((files_inside F a0 a1).bind fun x3 =>
 cond x3
 (some (a0, 19))
 (((files_without F a0 a1).bind fun x5 =>
 some x5 : Option (List TFile)).bind fun x4 =>
 some (x4, 0)))))
def files_Remove_s : Shp := ⟨20, [.one (.dat (.lst (.ext 0))), .one (.dat .str)], [], [], ⟨.tup [.dat (.lst (.ext 0)), .dat (.int .i64)], [], [], []⟩, none, []⟩
def files_Remove_p : Plan := .seq [] none (.leaf) (.seq [] none (.leaf) (.seq [] none (.leaf) (.seq [] none (.leaf) (.seq [] none (.region [(3, ⟨[(32, .one (.dat (.lst (.ext 0))))], [none], [], []⟩, false)]) (.leaf)))))
def files_Remove_c (F : Nat) : Ctr E := ⟨files_Remove_s, fun (x : (List TFile) × (List UInt8)) => files_Remove F x.1 x.2⟩
theorem files_Remove_ok (F : Nat) : (files_Remove_c F).Ok Tryz.prog := Ctr.ok_of (X := ⟨Tryz.prog, tyT, [files_isPath_c F, files_Find_c F, files_inside_c F, files_without_c F]⟩) (F := F) ⟨E_ok, okC (files_isPath_ok F) (okC (files_Find_ok F) (okC (files_inside_ok F) (okC (files_without_ok F) (okN)))), mixed⟩ (pl := files_Remove_p) Tryz.func20 (by kernel_rfl) (fun x => by kernel_rfl)
/- jobshell/jobshelllaw19.play -/
def law19_play (F : Nat)  (a0 : List TFile) (a1 : TOp) : Option ((List TFile) × Int) :=
 cond (a1.fKind == 0)
 ((law19_clean F a1.fPath).bind fun x1 =>
 (files_Put F a0 x1 a1.fData).bind fun x2 =>
 some (x2.1, x2.2))
 (cond (a1.fKind == 1)
 ((law19_clean F a1.fPath).bind fun x3 =>
 (files_Mkdir F a0 x3).bind fun x4 =>
 some (x4.1, x4.2))
 (cond (a1.fKind == 2)
 ((law19_clean F a1.fPath).bind fun x5 =>
 (files_Remove F a0 x5).bind fun x6 =>
 some (x6.1, x6.2))
 ((law19_clean F a1.fPath).bind fun x7 =>
 (law19_clean F a1.fTo).bind fun x8 =>
 (files_Rename F a0 x7 x8).bind fun x9 =>
 some (x9.1, x9.2))))
def law19_play_s : Shp := ⟨14, [.one (.dat (.lst (.ext 0))), .one (.dat (.ext 1))], [], [], ⟨.tup [.dat (.lst (.ext 0)), .dat (.int .i64)], [], [], []⟩, none, []⟩
def law19_play_p : Plan := .seq [] none (.leaf) (.seq [] none (.seq [] none (.leaf) (.seq [] none (.leaf) (.cond (.seq [] none (.drawP [0] [] [⟨[(0, true), (1, true), (2, true), (4, true), (5, true), (3, false), (6, false), (7, true), (8, false), (9, false), (10, false)], none⟩]) (.leaf)) (.leaf)))) (.seq [] none (.drawP [0] [] [⟨[(0, true), (1, true), (2, true), (4, true), (5, true), (3, false), (6, false), (7, false), (8, true), (9, false), (10, false), (11, false)], none⟩]) (.leaf)))
def law19_play_c (F : Nat) : Ctr E := ⟨law19_play_s, fun (x : (List TFile) × TOp) => law19_play F x.1 x.2⟩
theorem law19_play_ok (F : Nat) : (law19_play_c F).Ok Tryz.prog := Ctr.ok_of (X := ⟨Tryz.prog, tyT, [law19_clean_c F, files_Put_c F, files_Mkdir_c F, files_Remove_c F, files_Rename_c F]⟩) (F := F) ⟨E_ok, okC (law19_clean_ok F) (okC (files_Put_ok F) (okC (files_Mkdir_ok F) (okC (files_Remove_ok F) (okC (files_Rename_ok F) (okN))))), mixed⟩ (pl := law19_play_p) Tryz.func14 (by kernel_rfl) (fun x => by kernel_rfl)
/- jobshell/files.Diff -/
def files_Diff (F : Nat)  (a0 : List TFile) (a1 : List TFile) : Option (List (List UInt8)) :=
 loopF (σ := Int × (List (List UInt8))) (R := List (List UInt8)) (fun rc2 x1 =>
 cond (decide (x1.1 < (a0.length : Int)))
 (rq ((decide (0 ≤ x1.1)) && (decide (x1.1 < (a0.length : Int)))) ((files_Find F a1 ((a0.getD (Int.toNat x1.1) dTFile).fPath)).bind fun x3 =>
 (cond (!x3.2)
 (some (true, x1.2))
 (some (!((x3.1.fPath == (a0.getD (Int.toNat x1.1) dTFile).fPath) && ((x3.1.fDir == (a0.getD (Int.toNat x1.1) dTFile).fDir) && ((x3.1.fData == (a0.getD (Int.toNat x1.1) dTFile).fData) && true))), x1.2)) : Option (Bool × (List (List UInt8)))).bind fun x4 =>
 cond x4.1
 (rq ((decide (x4.2.length + ([(a0.getD (Int.toNat x1.1) dTFile).fPath] : List (List UInt8)).length ≤ 9223372036854775807)) && (decide ((x4.2.length + ([(a0.getD (Int.toNat x1.1) dTFile).fPath] : List (List UInt8)).length) * 16 ≤ 140737488355328))) (rc2 (w64 (x1.1 + 1), x4.2 ++ ([(a0.getD (Int.toNat x1.1) dTFile).fPath] : List (List UInt8)))))
 (rc2 (w64 (x1.1 + 1), x4.2))))
 (loopF (σ := Int × (List (List UInt8))) (R := List (List UInt8)) (fun rc6 x5 =>
 cond (decide (x5.1 < (a1.length : Int)))
 (rq ((decide (0 ≤ x5.1)) && (decide (x5.1 < (a1.length : Int)))) ((files_Find F a0 ((a1.getD (Int.toNat x5.1) dTFile).fPath)).bind fun x7 =>
 cond (!x7.2)
 (rq ((decide (x5.2.length + ([(a1.getD (Int.toNat x5.1) dTFile).fPath] : List (List UInt8)).length ≤ 9223372036854775807)) && (decide ((x5.2.length + ([(a1.getD (Int.toNat x5.1) dTFile).fPath] : List (List UInt8)).length) * 16 ≤ 140737488355328))) (rc6 (w64 (x5.1 + 1), x5.2 ++ ([(a1.getD (Int.toNat x5.1) dTFile).fPath] : List (List UInt8)))))
 (rc6 (w64 (x5.1 + 1), x5.2))))
 ((sortF F x5.2).bind fun x8 =>
 some x8)) F (0, x1.2))) F (0, ([] : List (List UInt8)))
def files_Diff_s : Shp := ⟨16, [.one (.dat (.lst (.ext 0))), .one (.dat (.lst (.ext 0)))], [], [], ⟨.one (.dat (.lst .str)), [], [], []⟩, none, []⟩
def files_Diff_p : Plan := .seq [] none (.leaf) (.seq [] none (.leaf) (.seq [] none (.seq [] none (.leaf) (.loop [.soft 5 9 .str] ⟨[(5, .one (.gso 0)), (16, .one (.dat (.int .i64)))], [], [some (9, 1)], [(0, .str)]⟩ (.seq [] none (.leaf) (.seq [] none (.leaf) (.seq [] none (.seq [] none (.leaf) (.seq [] none (.leaf) (.seq [] none (.region [(7, ⟨[(33, .one (.dat .bool))], [none, none], [none], [(0, .str)]⟩, false)]) (.leaf)))) (.leaf)))))) (.seq [] none (.seq [] none (.leaf) (.loop [] ⟨[(5, .one (.gso 0)), (42, .one (.dat (.int .i64)))], [], [some (9, 1)], [(0, .str)]⟩ (.leaf))) (.leaf))))
def files_Diff_c (F : Nat) : Ctr E := ⟨files_Diff_s, fun (x : (List TFile) × (List TFile)) => files_Diff F x.1 x.2⟩
theorem files_Diff_ok (F : Nat) : (files_Diff_c F).Ok Tryz.prog := Ctr.ok_of (X := ⟨Tryz.prog, tyT, [files_Find_c F, slicesSort_c F]⟩) (F := F) ⟨E_ok, okC (files_Find_ok F) (okC (slicesSort_ok F) (okN)), mixed⟩ (pl := files_Diff_p) Tryz.func16 (by kernel_rfl) (fun x => by kernel_rfl)
/- jobshell/jobshelllaw19.texts -/
def law19_texts (F : Nat)  (a0 : List (List UInt8)) (a1 : List (List UInt8)) : Option Bool :=
 cond ((a0.length : Int) != (a1.length : Int))
 (some false)
 (loopF (σ := Int) (R := Bool) (fun rc2 x1 =>
 cond (decide (x1 < (a0.length : Int)))
 (rq ((decide (0 ≤ x1)) && (decide (x1 < (a0.length : Int)))) (rq ((decide (0 ≤ x1)) && (decide (x1 < (a1.length : Int)))) (cond (!((a0.getD (Int.toNat x1) []) == (a1.getD (Int.toNat x1) [])))
 (some false)
 (rc2 (w64 (x1 + 1))))))
 (some true)) F 0)
def law19_texts_s : Shp := ⟨17, [.one (.dat (.lst .str)), .one (.dat (.lst .str))], [], [], ⟨.one (.dat .bool), [], [], []⟩, none, []⟩
def law19_texts_p : Plan := .seq [] none (.leaf) (.seq [] none (.leaf) (.seq [] none (.seq [] none (.leaf) (.loop [] ⟨[(5, .one (.dat (.int .i64)))], [], [], []⟩ (.seq [] none (.leaf) (.seq [] none (.seq [] none (.draw [⟨true, 9, none⟩]) (.leaf)) (.leaf))))) (.leaf)))
def law19_texts_c (F : Nat) : Ctr E := ⟨law19_texts_s, fun (x : (List (List UInt8)) × (List (List UInt8))) => law19_texts F x.1 x.2⟩
theorem law19_texts_ok (F : Nat) : (law19_texts_c F).Ok Tryz.prog := Ctr.ok_of (X := ⟨Tryz.prog, tyT, []⟩) (F := F) ⟨E_ok, okN, mixed⟩ (pl := law19_texts_p) Tryz.func17 (by kernel_rfl) (fun x => by kernel_rfl)
/- jobshell/jobshelllaw19.FilesStay -/
def law19_FilesStay (F : Nat)  (a0 : List TOp) : Option Bool :=
 cond (decide (40 < (a0.length : Int)))
 ((law19_awake 60).bind fun x1 =>
 some x1)
 ((files_New F).bind fun x2 =>
 loopF (σ := (List TFile) × Int) (R := Bool) (fun rc4 x3 =>
 cond (decide (x3.2 < (a0.length : Int)))
 (rq ((decide (0 ≤ x3.2)) && (decide (x3.2 < (a0.length : Int)))) (((law19_short F ((a0.getD (Int.toNat x3.2) dTOp).fPath) ((a0.getD (Int.toNat x3.2) dTOp).fTo)).bind fun x6 =>
 cond (!x6)
 (some true)
 (some (decide (200 < (((a0.getD (Int.toNat x3.2) dTOp).fPath).length : Int)))) : Option Bool).bind fun x5 =>
 (cond x5
 (some true)
 (some (decide (200 < (((a0.getD (Int.toNat x3.2) dTOp).fTo).length : Int)))) : Option Bool).bind fun x7 =>
 (cond x7
 (some true)
 (some (decide (200 < (((a0.getD (Int.toNat x3.2) dTOp).fData).length : Int)))) : Option Bool).bind fun x8 =>
 cond x8
 ((law19_awake 60).bind fun x9 =>
 some x9)
 ((law19_play F x3.1 (a0.getD (Int.toNat x3.2) dTOp)).bind fun x10 =>
 (files_Valid F x10.1).bind fun x11 =>
 cond (x11 != 0)
 (some false)
 ((files_Diff F x3.1 x10.1).bind fun x12 =>
 ((ref19_Same F x3.1 x10.1).bind fun x14 =>
 cond (!(((x12.length : Int) == 0) == x14))
 (some true)
 (cond (x10.2 != 0)
 (some (decide (0 < (x12.length : Int))))
 (some false)) : Option Bool).bind fun x13 =>
 (cond x13
 (some true)
 ((files_Diff F x10.1 x10.1).bind fun x16 =>
 some (decide (0 < (x16.length : Int)))) : Option Bool).bind fun x15 =>
 (cond x15
 (some true)
 ((files_Diff F x10.1 x3.1).bind fun x18 =>
 (law19_texts F x18 x12).bind fun x19 =>
 some (!x19)) : Option Bool).bind fun x17 =>
 cond x17
 (some false)
 (rc4 (x10.1, w64 (x3.2 + 1)))))))
 ((law19_awake 60).bind fun x20 =>
 some x20)) F (x2, 0))
def law19_FilesStay_s : Shp := ⟨4, [.one (.dat (.lst (.ext 1)))], [], [], ⟨.one (.dat .bool), [], [], []⟩, none, []⟩
def law19_FilesStay_p : Plan := .seq [] none (.leaf) (.seq [] none (.leaf) (.seq [] none (.leaf) (.seq [] none (.seq [] none (.leaf) (.loop [] ⟨[(3, .one (.dat (.lst (.ext 0)))), (4, .one (.dat (.int .i64)))], [], [], []⟩ (.seq [] none (.leaf) (.seq [] none (.seq [] none (.leaf) (.seq [] none (.seq [] none (.region [(12, ⟨[(35, .one (.dat .bool))], [none], [], []⟩, false), (6, ⟨[(41, .one (.dat .bool))], [none], [], []⟩, false), (6, ⟨[(47, .one (.dat .bool))], [none], [], []⟩, false)]) (.leaf)) (.seq [] none (.leaf) (.seq [] none (.leaf) (.seq [] none (.leaf) (.seq [] none (.seq [] none (.region [(16, ⟨[(76, .one (.dat .bool))], [none], [], []⟩, false), (7, ⟨[(83, .one (.dat .bool))], [none], [], []⟩, false), (8, ⟨[(91, .one (.dat .bool))], [none], [], []⟩, false)]) (.leaf)) (.leaf))))))) (.leaf))))) (.leaf))))
def law19_FilesStay_c (F : Nat) : Ctr E := ⟨law19_FilesStay_s, fun (x : List TOp) => law19_FilesStay F x⟩
theorem law19_FilesStay_ok (F : Nat) : (law19_FilesStay_c F).Ok Tryz.prog := Ctr.ok_of (X := ⟨Tryz.prog, tyT, [law19_awake_c 60, files_New_c F, law19_short_c F, law19_play_c F, files_Valid_c F, files_Diff_c F, ref19_Same_c F, law19_texts_c F]⟩) (F := F) ⟨E_ok, okC (law19_awake_ok 60) (okC (files_New_ok F) (okC (law19_short_ok F) (okC (law19_play_ok F) (okC (files_Valid_ok F) (okC (files_Diff_ok F) (okC (ref19_Same_ok F) (okC (law19_texts_ok F) (okN)))))))), mixed⟩ (pl := law19_FilesStay_p) Tryz.func4 (by kernel_rfl) (fun x => by kernel_rfl)
/- jobshell/jobshellref19.Find -/
def ref19_Find (F : Nat)  (a0 : List TFile) (a1 : List UInt8) : Option (TFile × Bool) :=
 (ref19_find F a0 a1).bind fun x1 =>
 cond (decide (x1 < 0))
 (some ((TFile.mk [] false []), false))
 (rq ((decide (0 ≤ x1)) && (decide (x1 < (a0.length : Int)))) (some ((a0.getD (Int.toNat x1) dTFile), true)))
def ref19_Find_s : Shp := ⟨21, [.one (.dat (.lst (.ext 0))), .one (.dat .str)], [], [], ⟨.tup [.dat (.ext 0), .dat .bool], [], [], []⟩, none, []⟩
def ref19_Find_p : Plan := .leaf
def ref19_Find_c (F : Nat) : Ctr E := ⟨ref19_Find_s, fun (x : (List TFile) × (List UInt8)) => ref19_Find F x.1 x.2⟩
theorem ref19_Find_ok (F : Nat) : (ref19_Find_c F).Ok Tryz.prog := Ctr.ok_of (X := ⟨Tryz.prog, tyT, [ref19_find_c F]⟩) (F := F) ⟨E_ok, okC (ref19_find_ok F) (okN), mixed⟩ (pl := ref19_Find_p) Tryz.func21 (by kernel_rfl) (fun x => by kernel_rfl)
/- jobshell/jobshelllaw19.FilesBack -/
def law19_FilesBack (F : Nat)  (a0 : List TFile) (a1 : List UInt8) (a2 : List UInt8) (a3 : List UInt8) : Option Bool :=
 ((ref19_Small F a0).bind fun x2 =>
 cond (!x2)
 (some true)
 ((law19_short F a1 a2).bind fun x3 =>
 some (!x3)) : Option Bool).bind fun x1 =>
 (cond x1
 (some true)
 (some (decide (9000 < (a3.length : Int)))) : Option Bool).bind fun x4 =>
 (cond x4
 (some true)
 ((ref19_Valid F a0).bind fun x6 =>
 some (x6 != 0)) : Option Bool).bind fun x5 =>
 cond x5
 ((law19_awake 60).bind fun x7 =>
 some x7)
 ((files_Put F a0 a1 a3).bind fun x8 =>
 jj (σ := Unit) (R := Bool) (cond (x8.2 == 0)
 ((files_Diff F a0 x8.1).bind fun x10 =>
 (files_Find F x8.1 a1).bind fun x11 =>
 (cond (!x11.2)
 (some true)
 (some x11.1.fDir) : Option Bool).bind fun x12 =>
 (cond x12
 (some true)
 (some (!(x11.1.fData == a3))) : Option Bool).bind fun x13 =>
 (cond x13
 (some true)
 (some (decide (1 < (x10.length : Int)))) : Option Bool).bind fun x14 =>
 (cond x14
 (some true)
 (cond ((x10.length : Int) == 1)
 (rq (decide (0 < (x10.length : Int))) (some (!((x10.getD 0 []) == a1))))
 (some false)) : Option Bool).bind fun x15 =>
 cond x15
 (some (.inr false))
 ((files_Remove F x8.1 a1).bind fun x16 =>
 cond (x16.2 != 0)
 (some (.inr false))
 ((ref19_Find F a0 a1).bind fun x17 =>
 (cond (!x17.2)
 ((ref19_Same F x16.1 a0).bind fun x19 =>
 some (!x19))
 (some false) : Option Bool).bind fun x18 =>
 cond x18
 (some (.inr false))
 (some (.inl ())))))
 (some (.inl ()))) fun _ =>
 (ref19_Find F a0 a2).bind fun x20 =>
 cond x20.2
 ((law19_awake 60).bind fun x21 =>
 some x21)
 ((files_Rename F a0 a1 a2).bind fun x22 =>
 cond (x22.2 != 0)
 (((ref19_Same F x22.1 a0).bind fun x24 =>
 cond x24
 ((law19_awake 60).bind fun x25 =>
 some x25)
 (some false) : Option Bool).bind fun x23 =>
 some x23)
 ((files_Rename F x22.1 a2 a1).bind fun x26 =>
 (cond (x26.2 == 0)
 ((ref19_Same F x26.1 a0).bind fun x28 =>
 some x28)
 (some false) : Option Bool).bind fun x27 =>
 (cond x27
 ((law19_awake 60).bind fun x30 =>
 some x30)
 (some false) : Option Bool).bind fun x29 =>
 some x29)))
def law19_FilesBack_s : Shp := ⟨5, [.one (.dat (.lst (.ext 0))), .one (.dat .str), .one (.dat .str), .one (.dat .str)], [], [], ⟨.one (.dat .bool), [], [], []⟩, none, []⟩
def law19_FilesBack_p : Plan := .seq [] none (.leaf) (.seq [] none (.seq [] none (.region [(9, ⟨[(32, .one (.dat .bool))], [], [], []⟩, false), (5, ⟨[(37, .one (.dat .bool))], [], [], []⟩, false), (5, ⟨[(42, .one (.dat .bool))], [], [], []⟩, false)]) (.leaf)) (.seq [] none (.leaf) (.seq [] (some (⟨[], [], [], []⟩, true)) (.seq [] none (.leaf) (.cond (.seq [] none (.leaf) (.seq [] none (.leaf) (.seq [] none (.seq [] none (.region [(6, ⟨[(67, .one (.dat .bool))], [none], [], []⟩, false), (6, ⟨[(73, .one (.dat .bool))], [none], [], []⟩, false), (5, ⟨[(78, .one (.dat .bool))], [none], [], []⟩, false), (12, ⟨[(90, .one (.dat .bool))], [none], [], []⟩, false)]) (.leaf)) (.seq [] none (.leaf) (.seq [] none (.leaf) (.seq [] none (.leaf) (.seq [] none (.region [(8, ⟨[(112, .one (.dat .bool))], [none, none], [], []⟩, false)]) (.leaf)))))))) (.leaf))) (.seq [] none (.leaf) (.seq [] none (.leaf) (.seq [] none (.seq [] none (.leaf) (.cond (.seq [] none (.region [(6, ⟨[(135, .one (.dat .bool))], [none], [], []⟩, false)]) (.leaf)) (.leaf))) (.seq [] none (.leaf) (.seq [] none (.region [(7, ⟨[(149, .one (.dat .bool))], [none], [], []⟩, false), (3, ⟨[(152, .one (.dat .bool))], [none], [], []⟩, false)]) (.leaf)))))))))
def law19_FilesBack_c (F : Nat) : Ctr E := ⟨law19_FilesBack_s, fun (x : (List TFile) × (List UInt8) × (List UInt8) × (List UInt8)) => law19_FilesBack F x.1 x.2.1 x.2.2.1 x.2.2.2⟩
theorem law19_FilesBack_ok (F : Nat) : (law19_FilesBack_c F).Ok Tryz.prog := Ctr.ok_of (X := ⟨Tryz.prog, tyT, [ref19_Small_c F, law19_short_c F, ref19_Valid_c F, law19_awake_c 60, files_Put_c F, files_Diff_c F, files_Find_c F, files_Remove_c F, ref19_Find_c F, ref19_Same_c F, files_Rename_c F]⟩) (F := F) ⟨E_ok, okC (ref19_Small_ok F) (okC (law19_short_ok F) (okC (ref19_Valid_ok F) (okC (law19_awake_ok 60) (okC (files_Put_ok F) (okC (files_Diff_ok F) (okC (files_Find_ok F) (okC (files_Remove_ok F) (okC (ref19_Find_ok F) (okC (ref19_Same_ok F) (okC (files_Rename_ok F) (okN))))))))))), mixed⟩ (pl := law19_FilesBack_p) Tryz.func5 (by kernel_rfl) (fun x => by kernel_rfl)
end Go.Proofs.YtipeaopaiplhiaaGreatDoor
