import Derived.Test.YtmklhkmeampamaaGreatDoorTy
import Derived.Test.YtmklhkmeampamaaGreatDoorHs
import Derived.Test.YtmklhkmeampamaaGreatDoorCo
namespace Go.Proofs.YtmklhkmeampamaaGreatDoor
open Go.RT
set_option linter.all false
set_option maxRecDepth 100000
def components_c (F : Nat) : Ctr E := compC E 1 35 F compF
theorem components_ok (F : Nat) : (components_c F).Ok Tryz.prog := comp_ok F
def stringsSplit_c (F : Nat) : Ctr E := splitC E 49 9 F
theorem stringsSplit_ok (F : Nat) : (stringsSplit_c F).Ok Tryz.prog := split_ok splitAt F
def stringsIndexAny_c (F : Nat) : Ctr E := iaMC E 102 F
theorem stringsIndexAny_ok (F : Nat) : (stringsIndexAny_c F).Ok Tryz.prog := iaM_ok F
def stringsJoinS_c (F : Nat) : Ctr E := joinSC E 31 9 F
theorem stringsJoinS_ok (F : Nat) : (stringsJoinS_c F).Ok Tryz.prog := joinS_ok joinAt F
def stringsCut_c (F : Nat) : Ctr E := cutC E 52 F
theorem stringsCut_ok (F : Nat) : (stringsCut_c F).Ok Tryz.prog := cut_ok cutAt F
def noEscape_c (F : Nat) : Ctr E := neC E 104 (.cells 89 [.optr 0 0, .gsl 0 (.int .u8)]) [(5, 1)]
theorem noEscape_ok (F : Nat) : (noEscape_c F).Ok Tryz.prog := ne_ok (fun v w => by rw [run_callFunc_extern Tryz.func104 (by kernel_rfl) (by kernel_rfl) (by kernel_rfl) (e := Extern.AbiNoEscape.same) (by kernel_rfl)]; rfl)
def stringsLastIndexByte_c (F : Nat) : Ctr E := libC E 47 F
theorem stringsLastIndexByte_ok (F : Nat) : (stringsLastIndexByte_c F).Ok Tryz.prog := lib_ok libAt F
def slicesSort_c (F : Nat) : Ctr E := sortC E 34 9 F
theorem slicesSort_ok (F : Nat) : (slicesSort_c F).Ok Tryz.prog := sort_ok sortAt F
def ref04_Small (F : Nat)  (a0 : List TRun) (a1 : Int) (a2 : Int) : Option Bool :=
 loopF (σ := Int × Int) (R := Bool) (fun rc2 x1 =>
 (cond (decide (x1.2 < (a0.length : Int)))
 (some (decide (x1.2 ≤ a1)))
 (some false) : Option Bool).bind fun x3 =>
 (cond x3
 (some (decide (x1.1 ≤ a2)))
 (some false) : Option Bool).bind fun x4 =>
 cond x4
 (rq ((decide (0 ≤ x1.2)) && (decide (x1.2 < (a0.length : Int)))) (rc2 (w64 (x1.1 + (((a0.getD (Int.toNat x1.2) dTRun).fText).length : Int)), w64 (x1.2 + 1))))
 ((cond (decide ((a0.length : Int) ≤ a1))
 (some (decide (x1.1 ≤ a2)))
 (some false) : Option Bool).bind fun x5 =>
 some x5)) F (0, 0)
def ref04_Small_s : Shp := ⟨21, [.one (.dat (.lst (.ext 1))), .one (.dat (.int .i64)), .one (.dat (.int .i64))], [], [], ⟨.one (.dat .bool), [], [], []⟩, none, []⟩
def ref04_Small_p : Plan := .seq [] none (.leaf) (.seq [] none (.leaf) (.seq [] none (.seq [] none (.leaf) (.loop [] ⟨[(7, .one (.dat (.int .i64))), (8, .one (.dat (.int .i64)))], [], [], []⟩ (.seq [] none (.seq [] none (.region [(9, ⟨[(17, .one (.dat .bool))], [], [], []⟩, false), (5, ⟨[(22, .one (.dat .bool))], [], [], []⟩, false)]) (.leaf)) (.leaf)))) (.seq [] none (.region [(9, ⟨[(41, .one (.dat .bool))], [], [], []⟩, false)]) (.leaf))))
def ref04_Small_c (F : Nat) : Ctr E := ⟨ref04_Small_s, fun (x : (List TRun) × Int × Int) => ref04_Small F x.1 x.2.1 x.2.2⟩
theorem ref04_Small_ok (F : Nat) : (ref04_Small_c F).Ok Tryz.prog := Ctr.ok_of (X := ⟨Tryz.prog, tyT, [], []⟩) (F := F) ⟨E_ok, okN, mixed, goN⟩ (pl := ref04_Small_p) Tryz.func21 (by kernel_rfl) (fun x => by kernel_rfl)
def ref19_Small (F : Nat)  (a0 : List TFile) : Option Bool :=
 loopF (σ := Int × Int) (R := Bool) (fun rc2 x1 =>
 (cond (decide (x1.2 < (a0.length : Int)))
 (some (decide (x1.2 < 140)))
 (some false) : Option Bool).bind fun x3 =>
 (cond x3
 (some (decide (x1.1 < 40000)))
 (some false) : Option Bool).bind fun x4 =>
 cond x4
 ((rq ((decide (0 ≤ x1.2)) && (decide (x1.2 < (a0.length : Int)))) (cond (decide (300 < (((a0.getD (Int.toNat x1.2) dTFile).fPath).length : Int)))
 (some true)
 (rq ((decide (0 ≤ x1.2)) && (decide (x1.2 < (a0.length : Int)))) (some (decide (9000 < (((a0.getD (Int.toNat x1.2) dTFile).fData).length : Int)))))) : Option Bool).bind fun x5 =>
 cond x5
 (some false)
 (rq ((decide (0 ≤ x1.2)) && (decide (x1.2 < (a0.length : Int)))) (rq ((decide (0 ≤ x1.2)) && (decide (x1.2 < (a0.length : Int)))) (rc2 (w64 ((w64 (x1.1 + (((a0.getD (Int.toNat x1.2) dTFile).fPath).length : Int))) + (((a0.getD (Int.toNat x1.2) dTFile).fData).length : Int)), w64 (x1.2 + 1))))))
 ((cond (decide ((a0.length : Int) ≤ 140))
 (some (decide (x1.1 < 40000)))
 (some false) : Option Bool).bind fun x6 =>
 some x6)) F (0, 0)
def ref19_Small_s : Shp := ⟨22, [.one (.dat (.lst (.ext 0)))], [], [], ⟨.one (.dat .bool), [], [], []⟩, none, []⟩
def ref19_Small_p : Plan := .seq [] none (.leaf) (.seq [] none (.leaf) (.seq [] none (.seq [] none (.leaf) (.loop [] ⟨[(3, .one (.dat (.int .i64))), (4, .one (.dat (.int .i64)))], [], [], []⟩ (.seq [] none (.seq [] none (.region [(8, ⟨[(12, .one (.dat .bool))], [], [], []⟩, false), (4, ⟨[(16, .one (.dat .bool))], [], [], []⟩, false)]) (.leaf)) (.seq [] none (.seq [] none (.seq [] none (.region [(16, ⟨[(34, .one (.dat .bool))], [], [], []⟩, false)]) (.leaf)) (.draw [⟨true, 16, none⟩])) (.leaf))))) (.seq [] none (.region [(7, ⟨[(56, .one (.dat .bool))], [], [], []⟩, false)]) (.leaf))))
def ref19_Small_c (F : Nat) : Ctr E := ⟨ref19_Small_s, fun (x : List TFile) => ref19_Small F x⟩
theorem ref19_Small_ok (F : Nat) : (ref19_Small_c F).Ok Tryz.prog := Ctr.ok_of (X := ⟨Tryz.prog, tyT, [], []⟩) (F := F) ⟨E_ok, okN, mixed, goN⟩ (pl := ref19_Small_p) Tryz.func22 (by kernel_rfl) (fun x => by kernel_rfl)
def ref19_parts (F : Nat)  (a0 : List UInt8) : Option (List (List UInt8)) :=
 loopF (σ := (List (List UInt8)) × Int × Int) (R := List (List UInt8)) (fun rc2 x1 =>
 cond (decide (x1.2.2 < (a0.length : Int)))
 (rq ((decide (0 ≤ x1.2.2)) && (decide (x1.2.2 < (a0.length : Int)))) (cond (((a0.getD (Int.toNat x1.2.2) 0).toNat : Int) == 47)
 (rq ((decide (0 ≤ x1.2.1)) && ((decide (x1.2.1 ≤ x1.2.2)) && (decide (x1.2.2 ≤ (a0.length : Int))))) (rq ((decide (x1.1.length + ([sl a0 x1.2.1 x1.2.2] : List (List UInt8)).length ≤ 9223372036854775807)) && (decide ((x1.1.length + ([sl a0 x1.2.1 x1.2.2] : List (List UInt8)).length) * 16 ≤ 140737488355328))) (rc2 (x1.1 ++ ([sl a0 x1.2.1 x1.2.2] : List (List UInt8)), w64 (x1.2.2 + 1), w64 (x1.2.2 + 1)))))
 (rc2 (x1.1, x1.2.1, w64 (x1.2.2 + 1)))))
 (rq ((decide (0 ≤ x1.2.1)) && ((decide (x1.2.1 ≤ (a0.length : Int))) && (decide ((a0.length : Int) ≤ (a0.length : Int))))) (rq ((decide (x1.1.length + ([sl a0 x1.2.1 (a0.length : Int)] : List (List UInt8)).length ≤ 9223372036854775807)) && (decide ((x1.1.length + ([sl a0 x1.2.1 (a0.length : Int)] : List (List UInt8)).length) * 16 ≤ 140737488355328))) (some (x1.1 ++ ([sl a0 x1.2.1 (a0.length : Int)] : List (List UInt8))))))) F (([] : List (List UInt8)), 0, 0)
def ref19_parts_s : Shp := ⟨41, [.one (.dat .str)], [], [], ⟨.one (.dat (.lst .str)), [], [], []⟩, none, []⟩
def ref19_parts_p : Plan := .seq [] none (.leaf) (.seq [.slot 2 9 .str] none (.leaf) (.seq [.slot 3 9 .str] none (.leaf) (.seq [] none (.seq [] none (.leaf) (.loop [] ⟨[(3, .one (.gsl 1 .str)), (4, .one (.dat (.int .i64))), (5, .one (.dat (.int .i64)))], [], [none, some (9, 1)], []⟩ (.leaf))) (.leaf))))
def ref19_parts_c (F : Nat) : Ctr E := ⟨ref19_parts_s, fun (x : List UInt8) => ref19_parts F x⟩
theorem ref19_parts_ok (F : Nat) : (ref19_parts_c F).Ok Tryz.prog := Ctr.ok_of (X := ⟨Tryz.prog, tyT, [], []⟩) (F := F) ⟨E_ok, okN, mixed, goN⟩ (pl := ref19_parts_p) Tryz.func41 (by kernel_rfl) (fun x => by kernel_rfl)
def ref19_name (F : Nat)  (a0 : List UInt8) : Option Bool :=
 (cond (decide ((a0.length : Int) < 1))
 (some true)
 (some (decide (32 < (a0.length : Int)))) : Option Bool).bind fun x1 =>
 (cond x1
 (some true)
 (some (a0 == ([46] : List UInt8))) : Option Bool).bind fun x2 =>
 (cond x2
 (some true)
 (some (a0 == ([46, 46] : List UInt8))) : Option Bool).bind fun x3 =>
 cond x3
 (some false)
 (loopF (σ := Int) (R := Bool) (fun rc5 x4 =>
 cond (decide (x4 < (a0.length : Int)))
 ((rq ((decide (0 ≤ x4)) && (decide (x4 < (a0.length : Int)))) (cond (((a0.getD (Int.toNat x4) 0).toNat : Int) == 47)
 (some true)
 (rq ((decide (0 ≤ x4)) && (decide (x4 < (a0.length : Int)))) (some (((a0.getD (Int.toNat x4) 0).toNat : Int) == 0)))) : Option Bool).bind fun x6 =>
 cond x6
 (some false)
 (rc5 (w64 (x4 + 1))))
 (some true)) F 0)
def ref19_name_s : Shp := ⟨42, [.one (.dat .str)], [], [], ⟨.one (.dat .bool), [], [], []⟩, none, []⟩
def ref19_name_p : Plan := .seq [] none (.leaf) (.seq [] none (.seq [] none (.region [(8, ⟨[(11, .one (.dat .bool))], [], [], []⟩, false), (4, ⟨[(15, .one (.dat .bool))], [], [], []⟩, false), (4, ⟨[(19, .one (.dat .bool))], [], [], []⟩, false)]) (.leaf)) (.seq [] none (.seq [] none (.leaf) (.loop [] ⟨[(3, .one (.dat (.int .i64)))], [], [], []⟩ (.seq [] none (.leaf) (.seq [] none (.seq [] none (.region [(10, ⟨[(35, .one (.dat .bool))], [], [], []⟩, false)]) (.leaf)) (.leaf))))) (.leaf)))
def ref19_name_c (F : Nat) : Ctr E := ⟨ref19_name_s, fun (x : List UInt8) => ref19_name F x⟩
theorem ref19_name_ok (F : Nat) : (ref19_name_c F).Ok Tryz.prog := Ctr.ok_of (X := ⟨Tryz.prog, tyT, [], []⟩) (F := F) ⟨E_ok, okN, mixed, goN⟩ (pl := ref19_name_p) Tryz.func42 (by kernel_rfl) (fun x => by kernel_rfl)
def ref19_IsPath (F : Nat)  (a0 : List UInt8) : Option Bool :=
 cond (a0 == ([47] : List UInt8))
 (some true)
 ((cond (decide ((a0.length : Int) < 2))
 (some true)
 (some (decide (128 < (a0.length : Int)))) : Option Bool).bind fun x1 =>
 (cond x1
 (some true)
 (rq (decide (0 < (a0.length : Int))) (some (((a0.getD 0 0).toNat : Int) != 47))) : Option Bool).bind fun x2 =>
 cond x2
 (some false)
 (rq ((decide (1 ≤ (a0.length : Int))) && (decide ((a0.length : Int) ≤ (a0.length : Int)))) ((ref19_parts F (sl a0 1 (a0.length : Int))).bind fun x3 =>
 loopF (σ := Int) (R := Bool) (fun rc5 x4 =>
 cond (decide (x4 < (x3.length : Int)))
 (rq ((decide (0 ≤ x4)) && (decide (x4 < (x3.length : Int)))) ((ref19_name F (x3.getD (Int.toNat x4) [])).bind fun x6 =>
 cond (!x6)
 (some false)
 (rc5 (w64 (x4 + 1)))))
 (some true)) F 0)))
def ref19_IsPath_s : Shp := ⟨14, [.one (.dat .str)], [], [], ⟨.one (.dat .bool), [], [], []⟩, none, []⟩
def ref19_IsPath_p : Plan := .seq [] none (.leaf) (.seq [] none (.leaf) (.seq [] none (.seq [] none (.region [(8, ⟨[(14, .one (.dat .bool))], [], [], []⟩, false), (5, ⟨[(19, .one (.dat .bool))], [], [], []⟩, false)]) (.leaf)) (.seq [] none (.leaf) (.seq [] none (.seq [] none (.leaf) (.loop [] ⟨[(4, .one (.dat (.int .i64)))], [], [], []⟩ (.leaf))) (.leaf)))))
def ref19_IsPath_c (F : Nat) : Ctr E := ⟨ref19_IsPath_s, fun (x : List UInt8) => ref19_IsPath F x⟩
theorem ref19_IsPath_ok (F : Nat) : (ref19_IsPath_c F).Ok Tryz.prog := Ctr.ok_of (X := ⟨Tryz.prog, tyT, [ref19_parts_c F, ref19_name_c F], []⟩) (F := F) ⟨E_ok, okC (ref19_parts_ok F) (okC (ref19_name_ok F) (okN)), mixed, goN⟩ (pl := ref19_IsPath_p) Tryz.func14 (by kernel_rfl) (fun x => by kernel_rfl)
def ref19_Above (F : Nat)  (a0 : List UInt8) (a1 : List UInt8) : Option Bool :=
 cond (a0 == ([47] : List UInt8))
 (some (!(a1 == ([47] : List UInt8))))
 ((cond (decide ((a0.length : Int) < (a1.length : Int)))
 (rq ((decide (0 ≤ (a0.length : Int))) && (decide ((a0.length : Int) ≤ (a1.length : Int)))) (some ((sl a1 0 (a0.length : Int)) == a0)))
 (some false) : Option Bool).bind fun x1 =>
 (cond x1
 (rq ((decide (0 ≤ (a0.length : Int))) && (decide ((a0.length : Int) < (a1.length : Int)))) (some (((a1.getD (Int.toNat (a0.length : Int)) 0).toNat : Int) == 47)))
 (some false) : Option Bool).bind fun x2 =>
 some x2)
def ref19_Above_s : Shp := ⟨71, [.one (.dat .str), .one (.dat .str)], [], [], ⟨.one (.dat .bool), [], [], []⟩, none, []⟩
def ref19_Above_p : Plan := .seq [] none (.leaf) (.seq [] none (.leaf) (.seq [] none (.region [(13, ⟨[(21, .one (.dat .bool))], [], [], []⟩, false), (7, ⟨[(28, .one (.dat .bool))], [], [], []⟩, false)]) (.leaf)))
def ref19_Above_c (F : Nat) : Ctr E := ⟨ref19_Above_s, fun (x : (List UInt8) × (List UInt8)) => ref19_Above F x.1 x.2⟩
theorem ref19_Above_ok (F : Nat) : (ref19_Above_c F).Ok Tryz.prog := Ctr.ok_of (X := ⟨Tryz.prog, tyT, [], []⟩) (F := F) ⟨E_ok, okN, mixed, goN⟩ (pl := ref19_Above_p) Tryz.func71 (by kernel_rfl) (fun x => by kernel_rfl)
def ref19_cut (F : Nat)  (a0 : List UInt8) : Option Int :=
 loopF (σ := Int × Int) (R := Int) (fun rc2 x1 =>
 cond (decide (x1.2 < (a0.length : Int)))
 (rq ((decide (0 ≤ x1.2)) && (decide (x1.2 < (a0.length : Int)))) (cond (((a0.getD (Int.toNat x1.2) 0).toNat : Int) == 47)
 (rc2 (x1.2, w64 (x1.2 + 1)))
 (rc2 (x1.1, w64 (x1.2 + 1)))))
 (some x1.1)) F (0, 0)
def ref19_cut_s : Shp := ⟨70, [.one (.dat .str)], [], [], ⟨.one (.dat (.int .i64)), [], [], []⟩, none, []⟩
def ref19_cut_p : Plan := .seq [] none (.leaf) (.seq [] none (.leaf) (.seq [] none (.seq [] none (.leaf) (.loop [] ⟨[(3, .one (.dat (.int .i64))), (4, .one (.dat (.int .i64)))], [], [], []⟩ (.leaf))) (.leaf)))
def ref19_cut_c (F : Nat) : Ctr E := ⟨ref19_cut_s, fun (x : List UInt8) => ref19_cut F x⟩
theorem ref19_cut_ok (F : Nat) : (ref19_cut_c F).Ok Tryz.prog := Ctr.ok_of (X := ⟨Tryz.prog, tyT, [], []⟩) (F := F) ⟨E_ok, okN, mixed, goN⟩ (pl := ref19_cut_p) Tryz.func70 (by kernel_rfl) (fun x => by kernel_rfl)
def ref19_Parent (F : Nat)  (a0 : List UInt8) : Option (List UInt8) :=
 (ref19_cut F a0).bind fun x1 =>
 cond (x1 == 0)
 (some ([47] : List UInt8))
 (rq ((decide (0 ≤ x1)) && (decide (x1 ≤ (a0.length : Int)))) (some (sl a0 0 x1)))
def ref19_Parent_s : Shp := ⟨43, [.one (.dat .str)], [], [], ⟨.one (.dat .str), [], [], []⟩, none, []⟩
def ref19_Parent_p : Plan := .leaf
def ref19_Parent_c (F : Nat) : Ctr E := ⟨ref19_Parent_s, fun (x : List UInt8) => ref19_Parent F x⟩
theorem ref19_Parent_ok (F : Nat) : (ref19_Parent_c F).Ok Tryz.prog := Ctr.ok_of (X := ⟨Tryz.prog, tyT, [ref19_cut_c F], []⟩) (F := F) ⟨E_ok, okC (ref19_cut_ok F) (okN), mixed, goN⟩ (pl := ref19_Parent_p) Tryz.func43 (by kernel_rfl) (fun x => by kernel_rfl)
def ref19_find (F : Nat)  (a0 : List TFile) (a1 : List UInt8) : Option Int :=
 loopF (σ := Int) (R := Int) (fun rc2 x1 =>
 cond (decide (x1 < (a0.length : Int)))
 (rq ((decide (0 ≤ x1)) && (decide (x1 < (a0.length : Int)))) (cond (((a0.getD (Int.toNat x1) dTFile).fPath) == a1)
 (some x1)
 (rc2 (w64 (x1 + 1)))))
 (some (-1))) F 0
def ref19_find_s : Shp := ⟨44, [.one (.dat (.lst (.ext 0))), .one (.dat .str)], [], [], ⟨.one (.dat (.int .i64)), [], [], []⟩, none, []⟩
def ref19_find_p : Plan := .seq [] none (.leaf) (.seq [] none (.seq [] none (.leaf) (.loop [] ⟨[(5, .one (.dat (.int .i64)))], [], [], []⟩ (.leaf))) (.leaf))
def ref19_find_c (F : Nat) : Ctr E := ⟨ref19_find_s, fun (x : (List TFile) × (List UInt8)) => ref19_find F x.1 x.2⟩
theorem ref19_find_ok (F : Nat) : (ref19_find_c F).Ok Tryz.prog := Ctr.ok_of (X := ⟨Tryz.prog, tyT, [], []⟩) (F := F) ⟨E_ok, okN, mixed, goN⟩ (pl := ref19_find_p) Tryz.func44 (by kernel_rfl) (fun x => by kernel_rfl)
def ref19_parent (F : Nat)  (a0 : List TFile) (a1 : List UInt8) : Option Int :=
 loopF (σ := Int) (R := Int) (fun rc2 x1 =>
 cond (decide (x1 < (a0.length : Int)))
 ((rq ((decide (0 ≤ x1)) && (decide (x1 < (a0.length : Int)))) (cond (!((a0.getD (Int.toNat x1) dTFile).fDir))
 (rq ((decide (0 ≤ x1)) && (decide (x1 < (a0.length : Int)))) ((ref19_Above F ((a0.getD (Int.toNat x1) dTFile).fPath) a1).bind fun x4 =>
 some x4))
 (some false)) : Option Bool).bind fun x3 =>
 cond x3
 (some 18)
 (rc2 (w64 (x1 + 1))))
 ((ref19_Parent F a1).bind fun x5 =>
 (ref19_find F a0 x5).bind fun x6 =>
 cond (decide (x6 < 0))
 (some 8)
 (some 0))) F 0
def ref19_parent_s : Shp := ⟨46, [.one (.dat (.lst (.ext 0))), .one (.dat .str)], [], [], ⟨.one (.dat (.int .i64)), [], [], []⟩, none, []⟩
def ref19_parent_p : Plan := .seq [] none (.leaf) (.seq [] none (.seq [] none (.leaf) (.loop [] ⟨[(5, .one (.dat (.int .i64)))], [], [], []⟩ (.seq [] none (.leaf) (.seq [] none (.seq [] none (.region [(15, ⟨[(26, .one (.dat .bool))], [], [], []⟩, false)]) (.leaf)) (.leaf))))) (.leaf))
def ref19_parent_c (F : Nat) : Ctr E := ⟨ref19_parent_s, fun (x : (List TFile) × (List UInt8)) => ref19_parent F x.1 x.2⟩
theorem ref19_parent_ok (F : Nat) : (ref19_parent_c F).Ok Tryz.prog := Ctr.ok_of (X := ⟨Tryz.prog, tyT, [ref19_Above_c F, ref19_Parent_c F, ref19_find_c F], []⟩) (F := F) ⟨E_ok, okC (ref19_Above_ok F) (okC (ref19_Parent_ok F) (okC (ref19_find_ok F) (okN))), mixed, goN⟩ (pl := ref19_parent_p) Tryz.func46 (by kernel_rfl) (fun x => by kernel_rfl)
def ref19_Valid (F : Nat)  (a0 : List TFile) : Option Int :=
 cond (decide (128 < (a0.length : Int)))
 (some 4)
 ((cond ((a0.length : Int) == 0)
 (some true)
 (rq (decide (0 < (a0.length : Int))) (some (!(((a0.getD 0 dTFile).fPath) == ([47] : List UInt8))))) : Option Bool).bind fun x1 =>
 cond x1
 (some 8)
 (loopF (σ := Int) (R := Int) (fun rc3 x2 =>
 cond (decide (x2 < (a0.length : Int)))
 (rq ((decide (0 ≤ x2)) && (decide (x2 < (a0.length : Int)))) ((ref19_IsPath F ((a0.getD (Int.toNat x2) dTFile).fPath)).bind fun x4 =>
 cond (!x4)
 (some 10)
 ((cond ((a0.getD (Int.toNat x2) dTFile).fDir)
 (some (!(((a0.getD (Int.toNat x2) dTFile).fData) == [])))
 (some false) : Option Bool).bind fun x5 =>
 (cond x5
 (some true)
 (cond (((a0.getD (Int.toNat x2) dTFile).fPath) == ([47] : List UInt8))
 (some (!((a0.getD (Int.toNat x2) dTFile).fDir)))
 (some false)) : Option Bool).bind fun x6 =>
 cond x6
 (some 1)
 (cond (decide (8192 < (((a0.getD (Int.toNat x2) dTFile).fData).length : Int)))
 (some 3)
 ((cond (decide (0 < x2))
 (rq ((decide (0 ≤ w64 (x2 - 1))) && (decide (w64 (x2 - 1) < (a0.length : Int)))) (some (Op.bytesLess ((a0.getD (Int.toNat x2) dTFile).fPath) ((a0.getD (Int.toNat (w64 (x2 - 1))) dTFile).fPath) || ((a0.getD (Int.toNat x2) dTFile).fPath) == ((a0.getD (Int.toNat (w64 (x2 - 1))) dTFile).fPath))))
 (some false) : Option Bool).bind fun x7 =>
 cond x7
 (some 25)
 (cond (decide (0 < x2))
 (rq ((decide (0 ≤ x2)) && (decide (x2 ≤ (a0.length : Int)))) ((ref19_parent F (sl a0 0 x2) ((a0.getD (Int.toNat x2) dTFile).fPath)).bind fun x8 =>
 cond (x8 != 0)
 (some x8)
 (rc3 (w64 (x2 + 1)))))
 (rc3 (w64 (x2 + 1)))))))))
 (some 0)) F 0))
def ref19_Valid_s : Shp := ⟨23, [.one (.dat (.lst (.ext 0)))], [], [], ⟨.one (.dat (.int .i64)), [], [], []⟩, none, []⟩
def ref19_Valid_p : Plan := .seq [] none (.leaf) (.seq [] none (.leaf) (.seq [] none (.seq [] none (.region [(10, ⟨[(18, .one (.dat .bool))], [], [], []⟩, false)]) (.leaf)) (.seq [] none (.seq [] none (.leaf) (.loop [] ⟨[(3, .one (.dat (.int .i64)))], [], [], []⟩ (.seq [] none (.leaf) (.seq [] none (.seq [] none (.leaf) (.seq [] none (.leaf) (.seq [] none (.seq [] none (.region [(7, ⟨[(39, .one (.dat .bool))], [none], [], []⟩, false), (10, ⟨[(49, .one (.dat .bool))], [none], [], []⟩, false)]) (.leaf)) (.seq [] none (.leaf) (.seq [] none (.seq [] none (.draw [⟨true, 13, some ⟨[(66, .one (.dat .bool))], [none], [], []⟩⟩]) (.leaf)) (.seq [] none (.leaf) (.cond (.seq [] none (.draw [⟨true, 5, none⟩, ⟨false, 2, none⟩]) (.leaf)) (.leaf)))))))) (.leaf))))) (.leaf))))
def ref19_Valid_c (F : Nat) : Ctr E := ⟨ref19_Valid_s, fun (x : List TFile) => ref19_Valid F x⟩
theorem ref19_Valid_ok (F : Nat) : (ref19_Valid_c F).Ok Tryz.prog := Ctr.ok_of (X := ⟨Tryz.prog, tyT, [ref19_IsPath_c F, ref19_parent_c F], []⟩) (F := F) ⟨E_ok, okC (ref19_IsPath_ok F) (okC (ref19_parent_ok F) (okN)), mixed, goN⟩ (pl := ref19_Valid_p) Tryz.func23 (by kernel_rfl) (fun x => by kernel_rfl)
def ref04_elements (F : Nat)  (a0 : List TRun) : Option (List Telement) :=
 loopF (σ := (List Telement) × Int) (R := List Telement) (fun rc2 x1 =>
 cond (decide (x1.2 < (a0.length : Int)))
 ((rq ((decide (0 ≤ x1.2)) && (decide (x1.2 < (a0.length : Int)))) (cond (((a0.getD (Int.toNat x1.2) dTRun).fClass) != 0)
 (rq ((decide (0 ≤ x1.2)) && (decide (x1.2 < (a0.length : Int)))) (some (((a0.getD (Int.toNat x1.2) dTRun).fClass) != 1)))
 (some false)) : Option Bool).bind fun x3 =>
 (cond x3
 (rq ((decide (0 ≤ x1.2)) && (decide (x1.2 < (a0.length : Int)))) (some (((a0.getD (Int.toNat x1.2) dTRun).fClass) != 2)))
 (some false) : Option Bool).bind fun x4 =>
 cond x4
 (rc2 (x1.1, w64 (x1.2 + 1)))
 (loopF (σ := (List Telement) × Int) (R := List Telement) (fun rc6 x5 =>
 rq ((decide (0 ≤ x1.2)) && (decide (x1.2 < (a0.length : Int)))) (cond (decide (x5.2 < (((a0.getD (Int.toNat x1.2) dTRun).fText).length : Int)))
 (rq ((decide (0 ≤ x1.2)) && (decide (x1.2 < (a0.length : Int)))) (rq ((decide (0 ≤ x5.2)) && (decide (x5.2 < (((a0.getD (Int.toNat x1.2) dTRun).fText).length : Int)))) (rq ((decide (0 ≤ x1.2)) && (decide (x1.2 < (a0.length : Int)))) (rq ((decide (x5.1.length + ([(Telement.mk ((((a0.getD (Int.toNat x1.2) dTRun).fText).getD (Int.toNat x5.2) 0).toNat : Int) (((a0.getD (Int.toNat x1.2) dTRun).fClass) != 1))] : List Telement).length ≤ 9223372036854775807)) && (decide ((x5.1.length + ([(Telement.mk ((((a0.getD (Int.toNat x1.2) dTRun).fText).getD (Int.toNat x5.2) 0).toNat : Int) (((a0.getD (Int.toNat x1.2) dTRun).fClass) != 1))] : List Telement).length) * 2 ≤ 140737488355328))) (rc6 (x5.1 ++ ([(Telement.mk ((((a0.getD (Int.toNat x1.2) dTRun).fText).getD (Int.toNat x5.2) 0).toNat : Int) (((a0.getD (Int.toNat x1.2) dTRun).fClass) != 1))] : List Telement), w64 (x5.2 + 1)))))))
 (rc2 (x5.1, w64 (x1.2 + 1))))) F (x1.1, 0)))
 (some x1.1)) F (([] : List Telement), 0)
def ref04_elements_s : Shp := ⟨65, [.one (.dat (.lst (.ext 1)))], [], [], ⟨.one (.dat (.lst (.ext 4))), [], [], []⟩, none, []⟩
def ref04_elements_p : Plan := .seq [] none (.leaf) (.seq [] none (.leaf) (.seq [.slot 3 118 (.ext 4)] none (.seq [] none (.leaf) (.loop [] ⟨[(3, .one (.gsl 0 (.ext 4))), (4, .one (.dat (.int .i64)))], [], [some (118, 2)], []⟩ (.seq [] none (.leaf) (.seq [] none (.seq [] none (.seq [] none (.region [(14, ⟨[(25, .one (.dat .bool))], [], [none], []⟩, false), (8, ⟨[(33, .one (.dat .bool))], [], [none], []⟩, false)]) (.leaf)) (.seq [] none (.leaf) (.loop [] ⟨[(3, .one (.gsl 0 (.ext 4))), (5, .one (.dat (.int .i64)))], [], [some (118, 2)], []⟩ (.seq [] none (.leaf) (.seq [] none (.draw [⟨true, 15, none⟩, ⟨false, 3, none⟩]) (.leaf)))))) (.leaf))))) (.leaf)))
def ref04_elements_c (F : Nat) : Ctr E := ⟨ref04_elements_s, fun (x : List TRun) => ref04_elements F x⟩
theorem ref04_elements_ok (F : Nat) : (ref04_elements_c F).Ok Tryz.prog := Ctr.ok_of (X := ⟨Tryz.prog, tyT, [], []⟩) (F := F) ⟨E_ok, okN, mixed, goN⟩ (pl := ref04_elements_p) Tryz.func65 (by kernel_rfl) (fun x => by kernel_rfl)
def ref04_is (F : Nat)  (a0 : List Telement) (a1 : Int) (a2 : Int) : Option Bool :=
 (cond (decide (a1 < (a0.length : Int)))
 (rq ((decide (0 ≤ a1)) && (decide (a1 < (a0.length : Int)))) (some ((a0.getD (Int.toNat a1) dTelement).factive)))
 (some false) : Option Bool).bind fun x1 =>
 (cond x1
 (rq ((decide (0 ≤ a1)) && (decide (a1 < (a0.length : Int)))) (some (((a0.getD (Int.toNat a1) dTelement).fb) == a2)))
 (some false) : Option Bool).bind fun x2 =>
 some x2
def ref04_is_s : Shp := ⟨66, [.one (.dat (.lst (.ext 4))), .one (.dat (.int .i64)), .one (.dat (.int .u8))], [], [], ⟨.one (.dat .bool), [], [], []⟩, none, []⟩
def ref04_is_p : Plan := .seq [] none (.leaf) (.seq [] none (.region [(11, ⟨[(17, .one (.dat .bool))], [], [], []⟩, false), (9, ⟨[(26, .one (.dat .bool))], [], [], []⟩, false)]) (.leaf))
def ref04_is_c (F : Nat) : Ctr E := ⟨ref04_is_s, fun (x : (List Telement) × Int × Int) => ref04_is F x.1 x.2.1 x.2.2⟩
theorem ref04_is_ok (F : Nat) : (ref04_is_c F).Ok Tryz.prog := Ctr.ok_of (X := ⟨Tryz.prog, tyT, [], []⟩) (F := F) ⟨E_ok, okN, mixed, goN⟩ (pl := ref04_is_p) Tryz.func66 (by kernel_rfl) (fun x => by kernel_rfl)
def ref04_classes (F : Nat)   : Option (List Tclass) :=
 some ([(Tclass.mk ([97, 108, 112, 104, 97] : List UInt8) ([(TSpan.mk 65 90), (TSpan.mk 97 122)] : List TSpan)), (Tclass.mk ([100, 105, 103, 105, 116] : List UInt8) ([(TSpan.mk 48 57)] : List TSpan)), (Tclass.mk ([97, 108, 110, 117, 109] : List UInt8) ([(TSpan.mk 48 57), (TSpan.mk 65 90), (TSpan.mk 97 122)] : List TSpan)), (Tclass.mk ([117, 112, 112, 101, 114] : List UInt8) ([(TSpan.mk 65 90)] : List TSpan)), (Tclass.mk ([108, 111, 119, 101, 114] : List UInt8) ([(TSpan.mk 97 122)] : List TSpan)), (Tclass.mk ([115, 112, 97, 99, 101] : List UInt8) ([(TSpan.mk 9 13), (TSpan.mk 32 32)] : List TSpan)), (Tclass.mk ([98, 108, 97, 110, 107] : List UInt8) ([(TSpan.mk 9 9), (TSpan.mk 32 32)] : List TSpan)), (Tclass.mk ([112, 117, 110, 99, 116] : List UInt8) ([(TSpan.mk 33 47), (TSpan.mk 58 64), (TSpan.mk 91 96), (TSpan.mk 123 126)] : List TSpan))] : List Tclass)
def ref04_classes_s : Shp := ⟨116, [], [], [], ⟨.one (.dat (.lst (.ext 5))), [], [], []⟩, none, []⟩
def ref04_classes_p : Plan := .leaf
def ref04_classes_c (F : Nat) : Ctr E := ⟨ref04_classes_s, fun (x : Unit) => ref04_classes F ⟩
theorem ref04_classes_ok (F : Nat) : (ref04_classes_c F).Ok Tryz.prog := Ctr.ok_of (X := ⟨Tryz.prog, tyT, [], []⟩) (F := F) ⟨E_ok, okN, mixed, goN⟩ (pl := ref04_classes_p) Tryz.func116 (by kernel_rfl) (fun x => by kernel_rfl)
def ref04_says (F : Nat)  (a0 : List Telement) (a1 : Int) (a2 : List UInt8) : Option Bool :=
 loopF (σ := Int) (R := Bool) (fun rc2 x1 =>
 cond (decide (x1 < (a2.length : Int)))
 (rq ((decide (0 ≤ x1)) && (decide (x1 < (a2.length : Int)))) ((ref04_is F a0 (w64 (a1 + x1)) ((a2.getD (Int.toNat x1) 0).toNat : Int)).bind fun x3 =>
 cond (!x3)
 (some false)
 (rc2 (w64 (x1 + 1)))))
 (some true)) F 0
def ref04_says_s : Shp := ⟨117, [.one (.dat (.lst (.ext 4))), .one (.dat (.int .i64)), .one (.dat .str)], [], [], ⟨.one (.dat .bool), [], [], []⟩, none, []⟩
def ref04_says_p : Plan := .seq [] none (.leaf) (.seq [] none (.seq [] none (.leaf) (.loop [] ⟨[(7, .one (.dat (.int .i64)))], [], [], []⟩ (.leaf))) (.leaf))
def ref04_says_c (F : Nat) : Ctr E := ⟨ref04_says_s, fun (x : (List Telement) × Int × (List UInt8)) => ref04_says F x.1 x.2.1 x.2.2⟩
theorem ref04_says_ok (F : Nat) : (ref04_says_c F).Ok Tryz.prog := Ctr.ok_of (X := ⟨Tryz.prog, tyT, [ref04_is_c F], []⟩) (F := F) ⟨E_ok, okC (ref04_is_ok F) (okN), mixed, goN⟩ (pl := ref04_says_p) Tryz.func117 (by kernel_rfl) (fun x => by kernel_rfl)
def ref04_member (F : Nat)  (a0 : List Telement) (a1 : Int) : Option ((List TSpan) × Int) :=
 (ref04_classes F).bind fun x1 =>
 loopF (σ := Int) (R := (List TSpan) × Int) (fun rc3 x2 =>
 cond (decide (x2 < (x1.length : Int)))
 (rq ((decide (0 ≤ x2)) && (decide (x2 < (x1.length : Int)))) (rq (decide (([91, 58] : List UInt8).length + ((x1.getD (Int.toNat x2) dTclass).fname).length ≤ 9223372036854775807)) (rq (decide ((([91, 58] : List UInt8) ++ ((x1.getD (Int.toNat x2) dTclass).fname)).length + ([58, 93] : List UInt8).length ≤ 9223372036854775807)) ((ref04_says F a0 a1 ((([91, 58] : List UInt8) ++ ((x1.getD (Int.toNat x2) dTclass).fname)) ++ ([58, 93] : List UInt8))).bind fun x4 =>
 cond x4
 (rq ((decide (0 ≤ x2)) && (decide (x2 < (x1.length : Int)))) (some ((x1.getD (Int.toNat x2) dTclass).fspans, w64 (a1 + (((([91, 58] : List UInt8) ++ ((x1.getD (Int.toNat x2) dTclass).fname)) ++ ([58, 93] : List UInt8)).length : Int)))))
 (rc3 (w64 (x2 + 1)))))))
 (rq ((decide (0 ≤ a1)) && (decide (a1 < (a0.length : Int)))) (((ref04_is F a0 (w64 (a1 + 1)) 45).bind fun x6 =>
 cond x6
 (some (decide (w64 (a1 + 2) < (a0.length : Int))))
 (some false) : Option Bool).bind fun x5 =>
 (cond x5
 ((ref04_is F a0 (w64 (a1 + 2)) 93).bind fun x8 =>
 some (!x8))
 (some false) : Option Bool).bind fun x7 =>
 cond x7
 (rq ((decide (0 ≤ w64 (a1 + 2))) && (decide (w64 (a1 + 2) < (a0.length : Int)))) (cond (decide ((a0.getD (Int.toNat a1) dTelement).fb ≤ (a0.getD (Int.toNat (w64 (a1 + 2))) dTelement).fb))
 (some (([(TSpan.mk ((a0.getD (Int.toNat a1) dTelement).fb) ((a0.getD (Int.toNat (w64 (a1 + 2))) dTelement).fb))] : List TSpan), w64 (a1 + 3)))
 (some ([], w64 (a1 + 3)))))
 (some (([(TSpan.mk ((a0.getD (Int.toNat a1) dTelement).fb) ((a0.getD (Int.toNat a1) dTelement).fb))] : List TSpan), w64 (a1 + 1)))))) F 0
def ref04_member_s : Shp := ⟨96, [.one (.dat (.lst (.ext 4))), .one (.dat (.int .i64))], [], [], ⟨.tup [.dat (.lst (.ext 3)), .dat (.int .i64)], [], [], []⟩, none, []⟩
def ref04_member_p : Plan := .seq [] none (.leaf) (.seq [] none (.leaf) (.seq [] none (.seq [] none (.leaf) (.loop [] ⟨[(7, .one (.dat (.int .i64)))], [], [], []⟩ (.leaf))) (.seq [] none (.leaf) (.seq [] none (.seq [] none (.region [(11, ⟨[(53, .one (.dat .bool))], [], [], []⟩, false), (7, ⟨[(60, .one (.dat .bool))], [], [], []⟩, false)]) (.leaf)) (.leaf)))))
def ref04_member_c (F : Nat) : Ctr E := ⟨ref04_member_s, fun (x : (List Telement) × Int) => ref04_member F x.1 x.2⟩
theorem ref04_member_ok (F : Nat) : (ref04_member_c F).Ok Tryz.prog := Ctr.ok_of (X := ⟨Tryz.prog, tyT, [ref04_classes_c F, ref04_says_c F, ref04_is_c F], []⟩) (F := F) ⟨E_ok, okC (ref04_classes_ok F) (okC (ref04_says_ok F) (okC (ref04_is_ok F) (okN))), mixed, goN⟩ (pl := ref04_member_p) Tryz.func96 (by kernel_rfl) (fun x => by kernel_rfl)
def ref04_in (F : Nat)  (a0 : List TSpan) (a1 : Int) : Option Bool :=
 loopF (σ := Int) (R := Bool) (fun rc2 x1 =>
 cond (decide (x1 < (a0.length : Int)))
 ((rq ((decide (0 ≤ x1)) && (decide (x1 < (a0.length : Int)))) (cond (decide ((a0.getD (Int.toNat x1) dTSpan).fLow ≤ a1))
 (rq ((decide (0 ≤ x1)) && (decide (x1 < (a0.length : Int)))) (some (decide (a1 ≤ (a0.getD (Int.toNat x1) dTSpan).fHigh))))
 (some false)) : Option Bool).bind fun x3 =>
 cond x3
 (some true)
 (rc2 (w64 (x1 + 1))))
 (some false)) F 0
def ref04_in_s : Shp := ⟨118, [.one (.dat (.lst (.ext 3))), .one (.dat (.int .u8))], [], [], ⟨.one (.dat .bool), [], [], []⟩, none, []⟩
def ref04_in_p : Plan := .seq [] none (.leaf) (.seq [] none (.seq [] none (.leaf) (.loop [] ⟨[(5, .one (.dat (.int .i64)))], [], [], []⟩ (.seq [] none (.leaf) (.seq [] none (.seq [] none (.region [(16, ⟨[(27, .one (.dat .bool))], [], [], []⟩, false)]) (.leaf)) (.leaf))))) (.leaf))
def ref04_in_c (F : Nat) : Ctr E := ⟨ref04_in_s, fun (x : (List TSpan) × Int) => ref04_in F x.1 x.2⟩
theorem ref04_in_ok (F : Nat) : (ref04_in_c F).Ok Tryz.prog := Ctr.ok_of (X := ⟨Tryz.prog, tyT, [], []⟩) (F := F) ⟨E_ok, okN, mixed, goN⟩ (pl := ref04_in_p) Tryz.func118 (by kernel_rfl) (fun x => by kernel_rfl)
def ref04_set (F : Nat)  (a0 : List TSpan) : Option (List TSpan) :=
 loopF (σ := Int × (List TSpan)) (R := List TSpan) (fun rc2 x1 =>
 cond (decide (x1.1 < 256))
 ((ref04_in F a0 (IntKind.wrap .u8 x1.1)).bind fun x3 =>
 cond (!x3)
 (rc2 (w64 (x1.1 + 1), x1.2))
 ((cond (decide (0 < (x1.2.length : Int)))
 (rq ((decide (0 ≤ w64 ((x1.2.length : Int) - 1))) && (decide (w64 ((x1.2.length : Int) - 1) < (x1.2.length : Int)))) (some ((w64 ((w64 ((x1.2.getD (Int.toNat (w64 ((x1.2.length : Int) - 1))) dTSpan).fHigh)) + 1)) == x1.1, x1.2)))
 (some (false, x1.2)) : Option (Bool × (List TSpan))).bind fun x4 =>
 cond x4.1
 (rq ((decide (0 ≤ w64 ((x1.2.length : Int) - 1))) && (decide (w64 ((x1.2.length : Int) - 1) < (x4.2.length : Int)))) (rc2 (w64 (x1.1 + 1), x4.2.set (Int.toNat (w64 ((x1.2.length : Int) - 1))) (TSpan.mk ((x4.2.getD (Int.toNat (w64 ((x1.2.length : Int) - 1))) dTSpan).fLow) (IntKind.wrap .u8 x1.1)))))
 (rq ((decide (x4.2.length + ([(TSpan.mk (IntKind.wrap .u8 x1.1) (IntKind.wrap .u8 x1.1))] : List TSpan).length ≤ 9223372036854775807)) && (decide ((x4.2.length + ([(TSpan.mk (IntKind.wrap .u8 x1.1) (IntKind.wrap .u8 x1.1))] : List TSpan).length) * 2 ≤ 140737488355328))) (rc2 (w64 (x1.1 + 1), x4.2 ++ ([(TSpan.mk (IntKind.wrap .u8 x1.1) (IntKind.wrap .u8 x1.1))] : List TSpan))))))
 (some x1.2)) F (0, ([] : List TSpan))
def ref04_set_s : Shp := ⟨97, [.one (.dat (.lst (.ext 3)))], [], [], ⟨.one (.dat (.lst (.ext 3))), [], [], []⟩, none, []⟩
def ref04_set_p : Plan := .seq [] none (.leaf) (.seq [] none (.leaf) (.seq [] none (.seq [] none (.leaf) (.loop [.soft 3 129 (.ext 3)] ⟨[(3, .one (.gso 0)), (4, .one (.dat (.int .i64)))], [], [some (129, 2)], [(0, (.ext 3))]⟩ (.seq [] none (.leaf) (.seq [] none (.seq [] none (.leaf) (.seq [] none (.leaf) (.seq [] none (.region [(14, ⟨[(30, .one (.dat .bool))], [], [none], [(0, (.ext 3))]⟩, false)]) (.leaf)))) (.leaf))))) (.leaf)))
def ref04_set_c (F : Nat) : Ctr E := ⟨ref04_set_s, fun (x : List TSpan) => ref04_set F x⟩
theorem ref04_set_ok (F : Nat) : (ref04_set_c F).Ok Tryz.prog := Ctr.ok_of (X := ⟨Tryz.prog, tyT, [ref04_in_c F], []⟩) (F := F) ⟨E_ok, okC (ref04_in_ok F) (okN), mixed, goN⟩ (pl := ref04_set_p) Tryz.func97 (by kernel_rfl) (fun x => by kernel_rfl)
def ref04_bracket (F : Nat)  (a0 : List Telement) (a1 : Int) : Option (TPatItem × Int × Bool) :=
 (((ref04_is F a0 (w64 (a1 + 1)) 33).bind fun x3 =>
 cond x3
 (some true)
 ((ref04_is F a0 (w64 (a1 + 1)) 94).bind fun x4 =>
 some x4) : Option Bool).bind fun x2 =>
 cond x2
 (some (w64 ((w64 (a1 + 1)) + 1), (TPatItem.mk 4 [] false []).fKind, (TPatItem.mk 4 [] false []).fText, true, (TPatItem.mk 4 [] false []).fSet))
 (some (w64 (a1 + 1), (TPatItem.mk 4 [] false []).fKind, (TPatItem.mk 4 [] false []).fText, (TPatItem.mk 4 [] false []).fNeg, (TPatItem.mk 4 [] false []).fSet)) : Option (Int × Int × (List UInt8) × Bool × (List TSpan))).bind fun x1 =>
 loopF (σ := Int × (List TSpan) × Bool) (R := TPatItem × Int × Bool) (fun rc6 x5 =>
 (cond (decide (x5.1 < (a0.length : Int)))
 (cond x5.2.2
 (some true)
 ((ref04_is F a0 x5.1 93).bind fun x8 =>
 some (!x8)))
 (some false) : Option Bool).bind fun x7 =>
 cond x7
 ((ref04_member F a0 x5.1).bind fun x9 =>
 rq ((decide (x5.2.1.length + x9.1.length ≤ 9223372036854775807)) && (decide ((x5.2.1.length + x9.1.length) * 2 ≤ 140737488355328))) (rc6 (x9.2, x5.2.1 ++ x9.1, false)))
 (cond (decide ((a0.length : Int) ≤ x5.1))
 (some ((TPatItem.mk 0 [] false []), 0, false))
 ((ref04_set F x5.2.1).bind fun x10 =>
 some ((TPatItem.mk x1.2.1 x1.2.2.1 x1.2.2.2.1 x10), w64 (x5.1 + 1), true)))) F (x1.1, ([] : List TSpan), true)
def ref04_bracket_s : Shp := ⟨67, [.one (.dat (.lst (.ext 4))), .one (.dat (.int .i64))], [], [], ⟨.tup [.dat (.ext 2), .dat (.int .i64), .dat .bool], [], [], []⟩, none, []⟩
def ref04_bracket_p : Plan := .seq [] none (.leaf) (.seq [] none (.leaf) (.seq [] none (.leaf) (.seq [] (some (⟨[(8, .one (.dat (.int .i64)))], [none, some (.cells 100 [.dat (.int .i64), .dat .str, .dat .bool, .dat (.lst (.ext 3))])], [], []⟩, false)) (.seq [] none (.region [(8, ⟨[(23, .one (.dat .bool))], [none, none], [], []⟩, false)]) (.leaf)) (.seq [] none (.leaf) (.seq [.slot 9 129 (.ext 3)] none (.seq [] none (.leaf) (.loop [] ⟨[(8, .one (.dat (.int .i64))), (9, .one (.gsl 0 (.ext 3))), (10, .one (.dat .bool))], [none, none], [some (129, 2)], []⟩ (.seq [] none (.seq [] none (.region [(13, ⟨[(39, .one (.dat .bool))], [none, none], [none], []⟩, false)]) (.leaf)) (.leaf)))) (.leaf))))))
def ref04_bracket_c (F : Nat) : Ctr E := ⟨ref04_bracket_s, fun (x : (List Telement) × Int) => ref04_bracket F x.1 x.2⟩
theorem ref04_bracket_ok (F : Nat) : (ref04_bracket_c F).Ok Tryz.prog := Ctr.ok_of (X := ⟨Tryz.prog, tyT, [ref04_is_c F, ref04_member_c F, ref04_set_c F], []⟩) (F := F) ⟨E_ok, okC (ref04_is_ok F) (okC (ref04_member_ok F) (okC (ref04_set_ok F) (okN))), mixed, goN⟩ (pl := ref04_bracket_p) Tryz.func67 (by kernel_rfl) (fun x => by kernel_rfl)
def ref04_Compile (F : Nat)  (a0 : List TRun) : Option (List TPatItem) :=
 (ref04_elements F a0).bind fun x1 =>
 loopF (σ := (List TPatItem) × Int) (R := List TPatItem) (fun rc3 x2 =>
 cond (decide (x2.2 < (x1.length : Int)))
 ((ref04_is F x1 x2.2 42).bind fun x4 =>
 cond x4
 (rq ((decide (x2.1.length + ([(TPatItem.mk 3 [] false [])] : List TPatItem).length ≤ 9223372036854775807)) && (decide ((x2.1.length + ([(TPatItem.mk 3 [] false [])] : List TPatItem).length) * 56 ≤ 140737488355328))) (rc3 (x2.1 ++ ([(TPatItem.mk 3 [] false [])] : List TPatItem), w64 (x2.2 + 1))))
 ((ref04_is F x1 x2.2 63).bind fun x5 =>
 cond x5
 (rq ((decide (x2.1.length + ([(TPatItem.mk 2 [] false [])] : List TPatItem).length ≤ 9223372036854775807)) && (decide ((x2.1.length + ([(TPatItem.mk 2 [] false [])] : List TPatItem).length) * 56 ≤ 140737488355328))) (rc3 (x2.1 ++ ([(TPatItem.mk 2 [] false [])] : List TPatItem), w64 (x2.2 + 1))))
 (jj (σ := (List TPatItem) × Int) (R := List TPatItem) ((ref04_is F x1 x2.2 91).bind fun x7 =>
 cond x7
 ((ref04_bracket F x1 x2.2).bind fun x8 =>
 cond x8.2.2
 (rq ((decide (x2.1.length + ([x8.1] : List TPatItem).length ≤ 9223372036854775807)) && (decide ((x2.1.length + ([x8.1] : List TPatItem).length) * 56 ≤ 140737488355328))) (retK (rc3 (x2.1 ++ ([x8.1] : List TPatItem), x8.2.1))))
 (some (.inl (x2.1, x2.2))))
 (some (.inl (x2.1, x2.2)))) fun x6 =>
 rq ((decide (0 ≤ x6.2)) && (decide (x6.2 < (x1.length : Int)))) (rq ((decide (x6.1.length + ([(TPatItem.mk 1 (toBytes ([(x1.getD (Int.toNat x6.2) dTelement).fb] : List Int)) false [])] : List TPatItem).length ≤ 9223372036854775807)) && (decide ((x6.1.length + ([(TPatItem.mk 1 (toBytes ([(x1.getD (Int.toNat x6.2) dTelement).fb] : List Int)) false [])] : List TPatItem).length) * 56 ≤ 140737488355328))) (rc3 (x6.1 ++ ([(TPatItem.mk 1 (toBytes ([(x1.getD (Int.toNat x6.2) dTelement).fb] : List Int)) false [])] : List TPatItem), w64 (x6.2 + 1)))))))
 (some x2.1)) F (([] : List TPatItem), 0)
def ref04_Compile_s : Shp := ⟨37, [.one (.dat (.lst (.ext 1)))], [], [], ⟨.one (.dat (.lst (.ext 2))), [], [], []⟩, none, []⟩
def ref04_Compile_p : Plan := .seq [] none (.leaf) (.seq [] none (.leaf) (.seq [] none (.leaf) (.seq [.slot 4 100 (.ext 2)] none (.seq [] none (.leaf) (.loop [] ⟨[(4, .one (.gsl 0 (.ext 2))), (5, .one (.dat (.int .i64)))], [], [some (100, 4)], []⟩ (.seq [] none (.leaf) (.seq [] none (.leaf) (.seq [] none (.leaf) (.seq [] (some (⟨[(4, .one (.gsl 0 (.ext 2))), (5, .one (.dat (.int .i64)))], [], [none], []⟩, true)) (.leaf) (.leaf))))))) (.leaf))))
def ref04_Compile_c (F : Nat) : Ctr E := ⟨ref04_Compile_s, fun (x : List TRun) => ref04_Compile F x⟩
theorem ref04_Compile_ok (F : Nat) : (ref04_Compile_c F).Ok Tryz.prog := Ctr.ok_of (X := ⟨Tryz.prog, tyT, [ref04_elements_c F, ref04_is_c F, ref04_bracket_c F], []⟩) (F := F) ⟨E_ok, okC (ref04_elements_ok F) (okC (ref04_is_ok F) (okC (ref04_bracket_ok F) (okN))), mixed, goN⟩ (pl := ref04_Compile_p) Tryz.func37 (by kernel_rfl) (fun x => by kernel_rfl)
def ref04_ascending (F : Nat)  (a0 : List TSpan) : Option Bool :=
 loopF (σ := Int) (R := Bool) (fun rc2 x1 =>
 cond (decide (x1 < (a0.length : Int)))
 ((rq ((decide (0 ≤ x1)) && (decide (x1 < (a0.length : Int)))) (rq ((decide (0 ≤ x1)) && (decide (x1 < (a0.length : Int)))) (cond (decide ((a0.getD (Int.toNat x1) dTSpan).fHigh < (a0.getD (Int.toNat x1) dTSpan).fLow))
 (some true)
 (cond (decide (0 < x1))
 (rq ((decide (0 ≤ x1)) && (decide (x1 < (a0.length : Int)))) (rq ((decide (0 ≤ w64 (x1 - 1))) && (decide (w64 (x1 - 1) < (a0.length : Int)))) (some (decide (w64 ((a0.getD (Int.toNat x1) dTSpan).fLow) ≤ w64 ((w64 ((a0.getD (Int.toNat (w64 (x1 - 1))) dTSpan).fHigh)) + 1))))))
 (some false)))) : Option Bool).bind fun x3 =>
 cond x3
 (some false)
 (rc2 (w64 (x1 + 1))))
 (some true)) F 0
def ref04_ascending_s : Shp := ⟨95, [.one (.dat (.lst (.ext 3)))], [], [], ⟨.one (.dat .bool), [], [], []⟩, none, []⟩
def ref04_ascending_p : Plan := .seq [] none (.leaf) (.seq [] none (.seq [] none (.leaf) (.loop [] ⟨[(3, .one (.dat (.int .i64)))], [], [], []⟩ (.seq [] none (.leaf) (.seq [] none (.seq [] none (.draw [⟨true, 32, some ⟨[(41, .one (.dat .bool))], [], [], []⟩⟩]) (.leaf)) (.leaf))))) (.leaf))
def ref04_ascending_c (F : Nat) : Ctr E := ⟨ref04_ascending_s, fun (x : List TSpan) => ref04_ascending F x⟩
theorem ref04_ascending_ok (F : Nat) : (ref04_ascending_c F).Ok Tryz.prog := Ctr.ok_of (X := ⟨Tryz.prog, tyT, [], []⟩) (F := F) ⟨E_ok, okN, mixed, goN⟩ (pl := ref04_ascending_p) Tryz.func95 (by kernel_rfl) (fun x => by kernel_rfl)
def ref04_Valid (F : Nat)  (a0 : List TPatItem) : Option Bool :=
 loopF (σ := Int) (R := Bool) (fun rc2 x1 =>
 cond (decide (x1 < (a0.length : Int)))
 (rq ((decide (0 ≤ x1)) && (decide (x1 < (a0.length : Int)))) ((cond (((a0.getD (Int.toNat x1) dTPatItem).fKind) == 1)
 (some 1)
 (some 0) : Option Int).bind fun x3 =>
 (cond (decide ((a0.getD (Int.toNat x1) dTPatItem).fKind < 1))
 (some true)
 (some (decide (4 < (a0.getD (Int.toNat x1) dTPatItem).fKind))) : Option Bool).bind fun x4 =>
 (cond x4
 (some true)
 (some ((((a0.getD (Int.toNat x1) dTPatItem).fText).length : Int) != x3)) : Option Bool).bind fun x5 =>
 (cond x5
 (some true)
 (cond (((a0.getD (Int.toNat x1) dTPatItem).fKind) != 4)
 (cond ((a0.getD (Int.toNat x1) dTPatItem).fNeg)
 (some true)
 (some (decide (0 < (((a0.getD (Int.toNat x1) dTPatItem).fSet).length : Int)))))
 (some false)) : Option Bool).bind fun x6 =>
 (cond x6
 (some true)
 ((ref04_ascending F ((a0.getD (Int.toNat x1) dTPatItem).fSet)).bind fun x8 =>
 some (!x8)) : Option Bool).bind fun x7 =>
 cond x7
 (some false)
 (rc2 (w64 (x1 + 1)))))
 (some true)) F 0
def ref04_Valid_s : Shp := ⟨64, [.one (.dat (.lst (.ext 2)))], [], [], ⟨.one (.dat .bool), [], [], []⟩, none, []⟩
def ref04_Valid_p : Plan := .seq [] none (.leaf) (.seq [] none (.seq [] none (.leaf) (.loop [] ⟨[(3, .one (.dat (.int .i64)))], [], [], []⟩ (.seq [] none (.leaf) (.seq [] none (.seq [] none (.leaf) (.seq [] none (.leaf) (.seq [] (some (⟨[(5, .one (.dat (.int .i64)))], [none], [], []⟩, false)) (.leaf) (.seq [] none (.region [(8, ⟨[(26, .one (.dat .bool))], [none], [], []⟩, false), (7, ⟨[(33, .one (.dat .bool))], [none], [], []⟩, false), (15, ⟨[(48, .one (.dat .bool))], [none], [], []⟩, false), (6, ⟨[(54, .one (.dat .bool))], [none], [], []⟩, false)]) (.leaf))))) (.leaf))))) (.leaf))
def ref04_Valid_c (F : Nat) : Ctr E := ⟨ref04_Valid_s, fun (x : List TPatItem) => ref04_Valid F x⟩
theorem ref04_Valid_ok (F : Nat) : (ref04_Valid_c F).Ok Tryz.prog := Ctr.ok_of (X := ⟨Tryz.prog, tyT, [ref04_ascending_c F], []⟩) (F := F) ⟨E_ok, okC (ref04_ascending_ok F) (okN), mixed, goN⟩ (pl := ref04_Valid_p) Tryz.func64 (by kernel_rfl) (fun x => by kernel_rfl)
def ref04_Literal (F : Nat)  (a0 : List TPatItem) : Option ((List UInt8) × Bool) :=
 loopF (σ := (List UInt8) × Int) (R := (List UInt8) × Bool) (fun rc2 x1 =>
 cond (decide (x1.2 < (a0.length : Int)))
 (rq ((decide (0 ≤ x1.2)) && (decide (x1.2 < (a0.length : Int)))) (cond (((a0.getD (Int.toNat x1.2) dTPatItem).fKind) != 1)
 (some ([], false))
 (rq ((decide (0 ≤ x1.2)) && (decide (x1.2 < (a0.length : Int)))) (rq (decide (x1.1.length + ((a0.getD (Int.toNat x1.2) dTPatItem).fText).length ≤ 9223372036854775807)) (rc2 (x1.1 ++ ((a0.getD (Int.toNat x1.2) dTPatItem).fText), w64 (x1.2 + 1)))))))
 ((ref04_Valid F a0).bind fun x3 =>
 cond (!x3)
 (some ([], false))
 (some (x1.1, true)))) F ([], 0)
def ref04_Literal_s : Shp := ⟨36, [.one (.dat (.lst (.ext 2)))], [], [], ⟨.tup [.dat .str, .dat .bool], [], [], []⟩, none, []⟩
def ref04_Literal_p : Plan := .seq [] none (.leaf) (.seq [] none (.leaf) (.seq [] none (.seq [] none (.leaf) (.loop [] ⟨[(4, .one (.dat .str)), (5, .one (.dat (.int .i64)))], [], [], []⟩ (.leaf))) (.leaf)))
def ref04_Literal_c (F : Nat) : Ctr E := ⟨ref04_Literal_s, fun (x : List TPatItem) => ref04_Literal F x⟩
theorem ref04_Literal_ok (F : Nat) : (ref04_Literal_c F).Ok Tryz.prog := Ctr.ok_of (X := ⟨Tryz.prog, tyT, [ref04_Valid_c F], []⟩) (F := F) ⟨E_ok, okC (ref04_Valid_ok F) (okN), mixed, goN⟩ (pl := ref04_Literal_p) Tryz.func36 (by kernel_rfl) (fun x => by kernel_rfl)
def ref20_Bounded (F : Nat)  (a0 : List TRun) : Option Bool :=
 (compF F a0).bind fun x1 =>
 loopF (σ := Int × Int × Int) (R := Bool) (fun rc3 x2 =>
 cond (decide (x2.2.2 < (x1.length : Int)))
 (rq ((decide (0 ≤ x2.2.2)) && (decide (x2.2.2 < (x1.length : Int)))) ((ref04_Compile F (x1.getD (Int.toNat x2.2.2) [])).bind fun x4 =>
 (ref04_Literal F x4).bind fun x5 =>
 cond (!x5.2)
 (rc3 (w64 (x2.1 + 1), x2.2.1, w64 (x2.2.2 + 1)))
 (cond (x5.1 == ([46, 46] : List UInt8))
 (rc3 (x2.1, w64 (x2.2.1 + 1), w64 (x2.2.2 + 1)))
 (rc3 (x2.1, x2.2.1, w64 (x2.2.2 + 1))))))
 ((cond (decide (x2.1 ≤ 2))
 (some true)
 (some (x2.2.1 == 0)) : Option Bool).bind fun x6 =>
 some x6)) F (0, 0, 0)
def ref20_Bounded_s : Shp := ⟨24, [.one (.dat (.lst (.ext 1)))], [], [], ⟨.one (.dat .bool), [], [], []⟩, none, []⟩
def ref20_Bounded_p : Plan := .seq [] none (.leaf) (.seq [] none (.leaf) (.seq [] none (.leaf) (.seq [] none (.seq [] none (.leaf) (.loop [] ⟨[(4, .one (.dat (.int .i64))), (5, .one (.dat (.int .i64))), (6, .one (.dat (.int .i64)))], [], [], []⟩ (.leaf))) (.seq [] none (.region [(6, ⟨[(39, .one (.dat .bool))], [], [], []⟩, false)]) (.leaf)))))
def ref20_Bounded_c (F : Nat) : Ctr E := ⟨ref20_Bounded_s, fun (x : List TRun) => ref20_Bounded F x⟩
theorem ref20_Bounded_ok (F : Nat) : (ref20_Bounded_c F).Ok Tryz.prog := Ctr.ok_of (X := ⟨Tryz.prog, tyT, [components_c F, ref04_Compile_c F, ref04_Literal_c F], []⟩) (F := F) ⟨E_ok, okC (components_ok F) (okC (ref04_Compile_ok F) (okC (ref04_Literal_ok F) (okN))), mixed, goN⟩ (pl := ref20_Bounded_p) Tryz.func24 (by kernel_rfl) (fun x => by kernel_rfl)
def law20_small (F : Nat)  (a0 : List TFile) (a1 : List UInt8) (a2 : List TRun) : Option Bool :=
 (cond (decide ((a0.length : Int) ≤ 40))
 (some (decide ((a1.length : Int) ≤ 200)))
 (some false) : Option Bool).bind fun x1 =>
 (cond x1
 ((ref04_Small F a2 10 80).bind fun x3 =>
 some x3)
 (some false) : Option Bool).bind fun x2 =>
 (cond x2
 ((ref19_Small F a0).bind fun x5 =>
 some x5)
 (some false) : Option Bool).bind fun x4 =>
 (cond x4
 ((ref19_Valid F a0).bind fun x7 =>
 some (x7 == 0))
 (some false) : Option Bool).bind fun x6 =>
 (cond x6
 ((ref20_Bounded F a2).bind fun x9 =>
 some x9)
 (some false) : Option Bool).bind fun x8 =>
 some x8
def law20_small_s : Shp := ⟨8, [.one (.dat (.lst (.ext 0))), .one (.dat .str), .one (.dat (.lst (.ext 1)))], [], [], ⟨.one (.dat .bool), [], [], []⟩, none, []⟩
def law20_small_p : Plan := .seq [] none (.leaf) (.seq [] none (.region [(8, ⟨[(14, .one (.dat .bool))], [], [], []⟩, false), (4, ⟨[(18, .one (.dat .bool))], [], [], []⟩, false), (4, ⟨[(22, .one (.dat .bool))], [], [], []⟩, false), (5, ⟨[(27, .one (.dat .bool))], [], [], []⟩, false), (4, ⟨[(31, .one (.dat .bool))], [], [], []⟩, false)]) (.leaf))
def law20_small_c (F : Nat) : Ctr E := ⟨law20_small_s, fun (x : (List TFile) × (List UInt8) × (List TRun)) => law20_small F x.1 x.2.1 x.2.2⟩
theorem law20_small_ok (F : Nat) : (law20_small_c F).Ok Tryz.prog := Ctr.ok_of (X := ⟨Tryz.prog, tyT, [ref04_Small_c F, ref19_Small_c F, ref19_Valid_c F, ref20_Bounded_c F], []⟩) (F := F) ⟨E_ok, okC (ref04_Small_ok F) (okC (ref19_Small_ok F) (okC (ref19_Valid_ok F) (okC (ref20_Bounded_ok F) (okN)))), mixed, goN⟩ (pl := law20_small_p) Tryz.func8 (by kernel_rfl) (fun x => by kernel_rfl)
def law20_lit (F : Nat)  (a0 : List UInt8) : Option (List TRun) :=
 some ([(TRun.mk a0 0)] : List TRun)
def law20_lit_s : Shp := ⟨19, [.one (.dat .str)], [], [], ⟨.one (.dat (.lst (.ext 1))), [], [], []⟩, none, []⟩
def law20_lit_p : Plan := .leaf
def law20_lit_c (F : Nat) : Ctr E := ⟨law20_lit_s, fun (x : List UInt8) => law20_lit F x⟩
theorem law20_lit_ok (F : Nat) : (law20_lit_c F).Ok Tryz.prog := Ctr.ok_of (X := ⟨Tryz.prog, tyT, [], []⟩) (F := F) ⟨E_ok, okN, mixed, goN⟩ (pl := law20_lit_p) Tryz.func19 (by kernel_rfl) (fun x => by kernel_rfl)
def stringslite_HasPrefix (F : Nat)  (a0 : List UInt8) (a1 : List UInt8) : Option Bool :=
 (cond (decide ((a1.length : Int) ≤ (a0.length : Int)))
 (rq ((decide (0 ≤ (a1.length : Int))) && (decide ((a1.length : Int) ≤ (a0.length : Int)))) (some ((sl a0 0 (a1.length : Int)) == a1)))
 (some false) : Option Bool).bind fun x1 =>
 some x1
def stringslite_HasPrefix_s : Shp := ⟨60, [.one (.dat .str), .one (.dat .str)], [], [], ⟨.one (.dat .bool), [], [], []⟩, none, []⟩
def stringslite_HasPrefix_p : Plan := .seq [] none (.leaf) (.seq [] none (.region [(13, ⟨[(17, .one (.dat .bool))], [], [], []⟩, false)]) (.leaf))
def stringslite_HasPrefix_c (F : Nat) : Ctr E := ⟨stringslite_HasPrefix_s, fun (x : (List UInt8) × (List UInt8)) => stringslite_HasPrefix F x.1 x.2⟩
theorem stringslite_HasPrefix_ok (F : Nat) : (stringslite_HasPrefix_c F).Ok Tryz.prog := Ctr.ok_of (X := ⟨Tryz.prog, tyT, [], []⟩) (F := F) ⟨E_ok, okN, mixed, goN⟩ (pl := stringslite_HasPrefix_p) Tryz.func60 (by kernel_rfl) (fun x => by kernel_rfl)
def strings_HasPrefix (F : Nat)  (a0 : List UInt8) (a1 : List UInt8) : Option Bool :=
 (stringslite_HasPrefix F a0 a1).bind fun x1 =>
 some x1
def strings_HasPrefix_s : Shp := ⟨32, [.one (.dat .str), .one (.dat .str)], [], [], ⟨.one (.dat .bool), [], [], []⟩, none, []⟩
def strings_HasPrefix_p : Plan := .leaf
def strings_HasPrefix_c (F : Nat) : Ctr E := ⟨strings_HasPrefix_s, fun (x : (List UInt8) × (List UInt8)) => strings_HasPrefix F x.1 x.2⟩
theorem strings_HasPrefix_ok (F : Nat) : (strings_HasPrefix_c F).Ok Tryz.prog := Ctr.ok_of (X := ⟨Tryz.prog, tyT, [stringslite_HasPrefix_c F], []⟩) (F := F) ⟨E_ok, okC (stringslite_HasPrefix_ok F) (okN), mixed, goN⟩ (pl := strings_HasPrefix_p) Tryz.func32 (by kernel_rfl) (fun x => by kernel_rfl)
def strings_ContainsAny (F : Nat)  (a0 : List UInt8) (a1 : List UInt8) : Option Bool :=
 (iaMF F a0 a1).bind fun x1 =>
 some (decide (0 ≤ x1))
def strings_ContainsAny_s : Shp := ⟨74, [.one (.dat .str), .one (.dat .str)], [], [], ⟨.one (.dat .bool), [], [], []⟩, none, []⟩
def strings_ContainsAny_p : Plan := .leaf
def strings_ContainsAny_c (F : Nat) : Ctr E := ⟨strings_ContainsAny_s, fun (x : (List UInt8) × (List UInt8)) => strings_ContainsAny F x.1 x.2⟩
theorem strings_ContainsAny_ok (F : Nat) : (strings_ContainsAny_c F).Ok Tryz.prog := Ctr.ok_of (X := ⟨Tryz.prog, tyT, [stringsIndexAny_c F], []⟩) (F := F) ⟨E_ok, okC (stringsIndexAny_ok F) (okN), mixed, goN⟩ (pl := strings_ContainsAny_p) Tryz.func74 (by kernel_rfl) (fun x => by kernel_rfl)
def files_isName (F : Nat)  (a0 : List UInt8) : Option Bool :=
 (cond (decide (1 ≤ (a0.length : Int)))
 (some (decide ((a0.length : Int) ≤ 32)))
 (some false) : Option Bool).bind fun x1 =>
 (cond x1
 (some (!(a0 == ([46] : List UInt8))))
 (some false) : Option Bool).bind fun x2 =>
 (cond x2
 (some (!(a0 == ([46, 46] : List UInt8))))
 (some false) : Option Bool).bind fun x3 =>
 (cond x3
 ((strings_ContainsAny F a0 ([47, 0] : List UInt8)).bind fun x5 =>
 some (!x5))
 (some false) : Option Bool).bind fun x4 =>
 some x4
def files_isName_s : Shp := ⟨50, [.one (.dat .str)], [], [], ⟨.one (.dat .bool), [], [], []⟩, none, []⟩
def files_isName_p : Plan := .seq [] none (.leaf) (.seq [] none (.region [(8, ⟨[(10, .one (.dat .bool))], [], [], []⟩, false), (4, ⟨[(14, .one (.dat .bool))], [], [], []⟩, false), (4, ⟨[(18, .one (.dat .bool))], [], [], []⟩, false), (5, ⟨[(23, .one (.dat .bool))], [], [], []⟩, false)]) (.leaf))
def files_isName_c (F : Nat) : Ctr E := ⟨files_isName_s, fun (x : List UInt8) => files_isName F x⟩
theorem files_isName_ok (F : Nat) : (files_isName_c F).Ok Tryz.prog := Ctr.ok_of (X := ⟨Tryz.prog, tyT, [strings_ContainsAny_c F], []⟩) (F := F) ⟨E_ok, okC (strings_ContainsAny_ok F) (okN), mixed, goN⟩ (pl := files_isName_p) Tryz.func50 (by kernel_rfl) (fun x => by kernel_rfl)
def files_isPath (F : Nat)  (a0 : List UInt8) : Option Bool :=
 cond (a0 == ([47] : List UInt8))
 (some true)
 ((cond (decide (128 < (a0.length : Int)))
 (some true)
 ((strings_HasPrefix F a0 ([47] : List UInt8)).bind fun x2 =>
 some (!x2)) : Option Bool).bind fun x1 =>
 cond x1
 (some false)
 ((rq ((decide (1 ≤ (a0.length : Int))) && (decide ((a0.length : Int) ≤ (a0.length : Int)))) ((splitF F (sl a0 1 (a0.length : Int)) ([47] : List UInt8)).bind fun x4 =>
 some x4) : Option (List (List UInt8))).bind fun x3 =>
 loopF (σ := Int) (R := Bool) (fun rc6 x5 =>
 cond (decide (x5 < (x3.length : Int)))
 (rq ((decide (0 ≤ x5)) && (decide (x5 < (x3.length : Int)))) ((files_isName F (x3.getD (Int.toNat x5) [])).bind fun x7 =>
 cond (!x7)
 (some false)
 (rc6 (w64 (x5 + 1)))))
 (some true)) F 0))
def files_isPath_s : Shp := ⟨48, [.one (.dat .str)], [], [], ⟨.one (.dat .bool), [], [], []⟩, none, []⟩
def files_isPath_p : Plan := .seq [] none (.leaf) (.seq [] none (.leaf) (.seq [] none (.seq [] none (.region [(8, ⟨[(14, .one (.dat .bool))], [], [], []⟩, false)]) (.leaf)) (.seq [] none (.seq [] none (.region [(3, ⟨[(17, .one (.dat (.lst .str)))], [], [], []⟩, false)]) (.loop [] ⟨[(19, .one (.dat (.int .i64)))], [], [], []⟩ (.leaf))) (.leaf))))
def files_isPath_c (F : Nat) : Ctr E := ⟨files_isPath_s, fun (x : List UInt8) => files_isPath F x⟩
theorem files_isPath_ok (F : Nat) : (files_isPath_c F).Ok Tryz.prog := Ctr.ok_of (X := ⟨Tryz.prog, tyT, [strings_HasPrefix_c F, stringsSplit_c F, files_isName_c F], []⟩) (F := F) ⟨E_ok, okC (strings_HasPrefix_ok F) (okC (stringsSplit_ok F) (okC (files_isName_ok F) (okN))), mixed, goN⟩ (pl := files_isPath_p) Tryz.func48 (by kernel_rfl) (fun x => by kernel_rfl)
def files_Clean (F : Nat)  (a0 : List UInt8) (a1 : List UInt8) : Option ((List UInt8) × Int) :=
 (files_isPath F a0).bind fun x1 =>
 cond (!x1)
 (some ([], 10))
 (cond (a1 == [])
 (some ([], 8))
 (((rq (decide (0 < (a1.length : Int))) (cond (((a1.getD 0 0).toNat : Int) != 47)
 (some (!(a0 == ([47] : List UInt8))))
 (some false)) : Option Bool).bind fun x3 =>
 cond x3
 (rq ((decide (1 ≤ (a0.length : Int))) && (decide ((a0.length : Int) ≤ (a0.length : Int)))) ((splitF F (sl a0 1 (a0.length : Int)) ([47] : List UInt8)).bind fun x4 =>
 some x4))
 (some ([] : List (List UInt8))) : Option (List (List UInt8))).bind fun x2 =>
 ((splitF F a1 ([47] : List UInt8)).bind fun x6 =>
 some (x6, x2) : Option ((List (List UInt8)) × (List (List UInt8)))).bind fun x5 =>
 loopF (σ := Int × (List (List UInt8))) (R := (List UInt8) × Int) (fun rc8 x7 =>
 cond (decide (x7.1 < (x5.1.length : Int)))
 (rq ((decide (0 ≤ x7.1)) && (decide (x7.1 < (x5.1.length : Int)))) ((cond ((x5.1.getD (Int.toNat x7.1) []) == [])
 (some (true, x7.2))
 (some ((x5.1.getD (Int.toNat x7.1) []) == ([46] : List UInt8), x7.2)) : Option (Bool × (List (List UInt8)))).bind fun x9 =>
 cond x9.1
 (rc8 (w64 (x7.1 + 1), x9.2))
 (cond ((x5.1.getD (Int.toNat x7.1) []) == ([46, 46] : List UInt8))
 (rq ((decide (0 ≤ cond (decide (w64 ((x9.2.length : Int) - 1) < 0)) 0 (w64 ((x9.2.length : Int) - 1)))) && (decide (cond (decide (w64 ((x9.2.length : Int) - 1) < 0)) 0 (w64 ((x9.2.length : Int) - 1)) ≤ (x9.2.length : Int)))) (rc8 (w64 (x7.1 + 1), x9.2.take (Int.toNat (cond (decide (w64 ((x9.2.length : Int) - 1) < 0)) 0 (w64 ((x9.2.length : Int) - 1)))))))
 ((files_isName F (x5.1.getD (Int.toNat x7.1) [])).bind fun x10 =>
 cond x10
 (rq ((decide (x9.2.length + ([x5.1.getD (Int.toNat x7.1) []] : List (List UInt8)).length ≤ 9223372036854775807)) && (decide ((x9.2.length + ([x5.1.getD (Int.toNat x7.1) []] : List (List UInt8)).length) * 16 ≤ 140737488355328))) (rc8 (w64 (x7.1 + 1), x9.2 ++ ([x5.1.getD (Int.toNat x7.1) []] : List (List UInt8)))))
 (some ([], 10))))))
 ((joinSF F ([47] : List UInt8) x7.2).bind fun x11 =>
 rq (decide (([47] : List UInt8).length + x11.1.length ≤ 9223372036854775807)) (cond (decide (128 < ((([47] : List UInt8) ++ x11.1).length : Int)))
 (some ([], 3))
 (some (([47] : List UInt8) ++ x11.1, 0))))) F (0, x5.2)))
def files_Clean_s : Shp := ⟨26, [.one (.dat .str), .one (.dat .str)], [], [], ⟨.tup [.dat .str, .dat (.int .i64)], [], [], []⟩, none, []⟩
def files_Clean_p : Plan := .seq [] none (.leaf) (.seq [] none (.leaf) (.seq [] none (.leaf) (.seq [] (some (⟨[(6, .one (.gso 0))], [], [some (9, 1)], [(0, .str)]⟩, false)) (.seq [] none (.region [(7, ⟨[(23, .one (.dat .bool))], [], [], []⟩, false)]) (.leaf)) (.seq [] none (.seq [] none (.region [(2, ⟨[(28, .one (.dat (.lst .str)))], [], [none], [(0, .str)]⟩, false)]) (.loop [] ⟨[(6, .one (.gso 0)), (30, .one (.dat (.int .i64)))], [], [some (9, 1)], [(0, .str)]⟩ (.seq [] none (.leaf) (.seq [] none (.leaf) (.seq [] none (.seq [] none (.leaf) (.seq [] none (.region [(6, ⟨[(40, .one (.dat .bool))], [], [none], [(0, .str)]⟩, false)]) (.leaf))) (.leaf)))))) (.leaf)))))
def files_Clean_c (F : Nat) : Ctr E := ⟨files_Clean_s, fun (x : (List UInt8) × (List UInt8)) => files_Clean F x.1 x.2⟩
theorem files_Clean_ok (F : Nat) : (files_Clean_c F).Ok Tryz.prog := Ctr.ok_of (X := ⟨Tryz.prog, tyT, [files_isPath_c F, stringsSplit_c F, files_isName_c F, stringsJoinS_c F], []⟩) (F := F) ⟨E_ok, okC (files_isPath_ok F) (okC (stringsSplit_ok F) (okC (files_isName_ok F) (okC (stringsJoinS_ok F) (okN)))), mixed, goN⟩ (pl := files_Clean_p) Tryz.func26 (by kernel_rfl) (fun x => by kernel_rfl)
def pathname_pieces (F : Nat)  (a0 : List TRun) : Option (List TRun) :=
 some a0
def pathname_pieces_s : Shp := ⟨27, [.one (.dat (.lst (.ext 1)))], [], [], ⟨.one (.func 51 [(0, 0)]), [some (.cells 23 [.dat (.lst (.ext 1))])], [], []⟩, none, []⟩
def pathname_pieces_p : Plan := .leaf
def pathname_pieces_c (F : Nat) : Ctr E := ⟨pathname_pieces_s, fun (x : List TRun) => pathname_pieces F x⟩
theorem pathname_pieces_ok (F : Nat) : (pathname_pieces_c F).Ok Tryz.prog := Ctr.ok_of (X := ⟨Tryz.prog, tyT, [], []⟩) (F := F) ⟨E_ok, okN, mixed, goN⟩ (pl := pathname_pieces_p) Tryz.func27 (by kernel_rfl) (fun x => by kernel_rfl)
def strings_Builder_copyCheck (F : Nat)  (a0 : Bool) (a1 : List Int) : Option (Bool × (List Int)) :=
 cond (!a0)
 ((neF F).bind fun _ =>
 some (true, a1))
 (cond (!a0)
 (none)
 (some (a0, a1)))
def strings_Builder_copyCheck_s : Shp := ⟨76, [.one (.ptr 0 0)], [.cells 89 [.optr 0 0, .gsl 0 (.int .u8)]], [(5, 1)], ⟨.tup [], [some (.cells 89 [.optr 0 0, .gsl 0 (.int .u8)])], [none], []⟩, none, []⟩
def strings_Builder_copyCheck_p : Plan := .leaf
def strings_Builder_copyCheck_c (F : Nat) : Ctr E := ⟨strings_Builder_copyCheck_s, fun (x : Bool × (List Int)) => strings_Builder_copyCheck F x.1 x.2⟩
theorem strings_Builder_copyCheck_ok (F : Nat) : (strings_Builder_copyCheck_c F).Ok Tryz.prog := Ctr.ok_of (X := ⟨Tryz.prog, tyT, [noEscape_c F], []⟩) (F := F) ⟨E_ok, okC (noEscape_ok F) (okN), mixed, goN⟩ (pl := strings_Builder_copyCheck_p) Tryz.func76 (by kernel_rfl) (fun x => by kernel_rfl)
def strings_Builder_WriteString (F : Nat)  (a0 : List UInt8) (a1 : Bool) (a2 : List Int) : Option (Int × Bool × (List Int)) :=
 (strings_Builder_copyCheck F a1 a2).bind fun x1 =>
 rq ((decide (x1.2.length + (toInts a0).length ≤ 9223372036854775807)) && (decide ((x1.2.length + (toInts a0).length) * 1 ≤ 140737488355328))) (some ((a0.length : Int), x1.1, x1.2 ++ (toInts a0)))
def strings_Builder_WriteString_s : Shp := ⟨53, [.one (.ptr 0 0), .one (.dat .str)], [.cells 89 [.optr 0 0, .gsl 0 (.int .u8)]], [(5, 1)], ⟨.tup [.dat (.int .i64), .nil .iface], [some (.cells 89 [.optr 0 0, .gsl 0 (.int .u8)])], [some (5, 1)], []⟩, none, []⟩
def strings_Builder_WriteString_p : Plan := .leaf
def strings_Builder_WriteString_c (F : Nat) : Ctr E := ⟨strings_Builder_WriteString_s, fun (x : (List UInt8) × Bool × (List Int)) => strings_Builder_WriteString F x.1 x.2.1 x.2.2⟩
theorem strings_Builder_WriteString_ok (F : Nat) : (strings_Builder_WriteString_c F).Ok Tryz.prog := Ctr.ok_of (X := ⟨Tryz.prog, tyT, [strings_Builder_copyCheck_c F], []⟩) (F := F) ⟨E_ok, okC (strings_Builder_copyCheck_ok F) (okN), mixed, goN⟩ (pl := strings_Builder_WriteString_p) Tryz.func53 (by kernel_rfl) (fun x => by kernel_rfl)
def strings_Builder_String (F : Nat)  (a0 : Bool) (a1 : List Int) : Option (List UInt8) :=
 rq ((decide ((a1.length : Int) = (a1.length : Int))) && ((byteOk a1) && (decide (a1.length ≤ 9223372036854775807)))) (some (toBytes a1))
def strings_Builder_String_s : Shp := ⟨54, [.one (.ptr 0 0)], [.cells 89 [.optr 0 0, .gsl 0 (.int .u8)]], [(5, 1)], ⟨.one (.dat .str), [none], [some (5, 1)], []⟩, none, []⟩
def strings_Builder_String_p : Plan := .seq [] none (.leaf) (.seq [] none (.draw [⟨true, 10, none⟩, ⟨false, 2, none⟩]) (.leaf))
def strings_Builder_String_c (F : Nat) : Ctr E := ⟨strings_Builder_String_s, fun (x : Bool × (List Int)) => strings_Builder_String F x.1 x.2⟩
theorem strings_Builder_String_ok (F : Nat) : (strings_Builder_String_c F).Ok Tryz.prog := Ctr.ok_of (X := ⟨Tryz.prog, tyT, [], []⟩) (F := F) ⟨E_ok, okN, mixed, goN⟩ (pl := strings_Builder_String_p) Tryz.func54 (by kernel_rfl) (fun x => by kernel_rfl)
def split_Text (F : Nat)  (a0 : List TRun) : Option (List UInt8) :=
 loopF (σ := Int × Bool × (List Int)) (R := List UInt8) (fun rc2 x1 =>
 cond (decide (x1.1 < (a0.length : Int)))
 (rq ((decide (0 ≤ x1.1)) && (decide (x1.1 < (a0.length : Int)))) ((strings_Builder_WriteString F ((a0.getD (Int.toNat x1.1) dTRun).fText) x1.2.1 x1.2.2).bind fun x3 =>
 rc2 (w64 (x1.1 + 1), x3.2.1, x3.2.2)))
 ((strings_Builder_String F x1.2.1 x1.2.2).bind fun x4 =>
 some x4)) F (0, false, ([] : List Int))
def split_Text_s : Shp := ⟨28, [.one (.dat (.lst (.ext 1)))], [], [], ⟨.one (.dat .str), [], [], []⟩, none, []⟩
def split_Text_p : Plan := .seq [] none (.leaf) (.seq [] none (.leaf) (.seq [.cell 0 1 5 (.int .u8)] none (.seq [] none (.leaf) (.loop [] ⟨[(8, .one (.dat (.int .i64)))], [some (.cells 89 [.optr 0 0, .gsl 0 (.int .u8)])], [some (5, 1)], []⟩ (.leaf))) (.leaf)))
def split_Text_c (F : Nat) : Ctr E := ⟨split_Text_s, fun (x : List TRun) => split_Text F x⟩
theorem split_Text_ok (F : Nat) : (split_Text_c F).Ok Tryz.prog := Ctr.ok_of (X := ⟨Tryz.prog, tyT, [strings_Builder_WriteString_c F, strings_Builder_String_c F], []⟩) (F := F) ⟨E_ok, okC (strings_Builder_WriteString_ok F) (okC (strings_Builder_String_ok F) (okN)), mixed, goN⟩ (pl := split_Text_p) Tryz.func28 (by kernel_rfl) (fun x => by kernel_rfl)
def pattern_chars (F : Nat)  (a0 : List TRun) : Option (List Tchar) :=
 loopF (σ := (List Tchar) × Int) (R := List Tchar) (fun rc2 x1 =>
 cond (decide (x1.2 < (a0.length : Int)))
 (rq ((decide (0 ≤ x1.2)) && (decide (x1.2 < (a0.length : Int)))) ((cond (((a0.getD (Int.toNat x1.2) dTRun).fClass) != 0)
 (some (((a0.getD (Int.toNat x1.2) dTRun).fClass) != 1))
 (some false) : Option Bool).bind fun x3 =>
 (cond x3
 (some (((a0.getD (Int.toNat x1.2) dTRun).fClass) != 2))
 (some false) : Option Bool).bind fun x4 =>
 cond x4
 (rc2 (x1.1, w64 (x1.2 + 1)))
 (loopF (σ := (List Tchar) × Int) (R := List Tchar) (fun rc6 x5 =>
 cond (decide (x5.2 < (((a0.getD (Int.toNat x1.2) dTRun).fText).length : Int)))
 (rq ((decide (0 ≤ x5.2)) && (decide (x5.2 < (((a0.getD (Int.toNat x1.2) dTRun).fText).length : Int)))) (rq ((decide (x5.1.length + ([(Tchar.mk ((((a0.getD (Int.toNat x1.2) dTRun).fText).getD (Int.toNat x5.2) 0).toNat : Int) (((a0.getD (Int.toNat x1.2) dTRun).fClass) != 1))] : List Tchar).length ≤ 9223372036854775807)) && (decide ((x5.1.length + ([(Tchar.mk ((((a0.getD (Int.toNat x1.2) dTRun).fText).getD (Int.toNat x5.2) 0).toNat : Int) (((a0.getD (Int.toNat x1.2) dTRun).fClass) != 1))] : List Tchar).length) * 2 ≤ 140737488355328))) (rc6 (x5.1 ++ ([(Tchar.mk ((((a0.getD (Int.toNat x1.2) dTRun).fText).getD (Int.toNat x5.2) 0).toNat : Int) (((a0.getD (Int.toNat x1.2) dTRun).fClass) != 1))] : List Tchar), w64 (x5.2 + 1)))))
 (rc2 (x5.1, w64 (x1.2 + 1)))) F (x1.1, 0))))
 (some x1.1)) F (([] : List Tchar), 0)
def pattern_chars_s : Shp := ⟨55, [.one (.dat (.lst (.ext 1)))], [], [], ⟨.one (.dat (.lst (.ext 8))), [], [], []⟩, none, []⟩
def pattern_chars_p : Plan := .seq [] none (.leaf) (.seq [] none (.leaf) (.seq [.slot 3 104 (.ext 8)] none (.seq [] none (.leaf) (.loop [] ⟨[(3, .one (.gsl 0 (.ext 8))), (9, .one (.dat (.int .i64)))], [], [some (104, 2)], []⟩ (.seq [] none (.leaf) (.seq [] none (.leaf) (.seq [] none (.seq [] none (.leaf) (.seq [] none (.seq [] none (.region [(8, ⟨[(20, .one (.dat .bool))], [none], [none], []⟩, false), (5, ⟨[(25, .one (.dat .bool))], [none], [none], []⟩, false)]) (.leaf)) (.seq [] none (.leaf) (.loop [] ⟨[(3, .one (.gsl 0 (.ext 8))), (6, .one (.dat (.int .i64)))], [none], [some (104, 2)], []⟩ (.seq [] none (.leaf) (.seq [] none (.draw [⟨true, 9, none⟩, ⟨false, 3, none⟩]) (.leaf))))))) (.leaf)))))) (.leaf)))
def pattern_chars_c (F : Nat) : Ctr E := ⟨pattern_chars_s, fun (x : List TRun) => pattern_chars F x⟩
theorem pattern_chars_ok (F : Nat) : (pattern_chars_c F).Ok Tryz.prog := Ctr.ok_of (X := ⟨Tryz.prog, tyT, [], []⟩) (F := F) ⟨E_ok, okN, mixed, goN⟩ (pl := pattern_chars_p) Tryz.func55 (by kernel_rfl) (fun x => by kernel_rfl)
def pattern_is (F : Nat)  (a0 : List Tchar) (a1 : Int) (a2 : Int) : Option Bool :=
 (cond (decide (a1 < (a0.length : Int)))
 (rq ((decide (0 ≤ a1)) && (decide (a1 < (a0.length : Int)))) (some (((a0.getD (Int.toNat a1) dTchar).fb == (Tchar.mk a2 true).fb) && (((a0.getD (Int.toNat a1) dTchar).factive == (Tchar.mk a2 true).factive) && true))))
 (some false) : Option Bool).bind fun x1 =>
 some x1
def pattern_is_s : Shp := ⟨56, [.one (.dat (.lst (.ext 8))), .one (.dat (.int .i64)), .one (.dat (.int .u8))], [], [], ⟨.one (.dat .bool), [], [], []⟩, none, []⟩
def pattern_is_p : Plan := .seq [] none (.leaf) (.seq [] none (.region [(13, ⟨[(19, .one (.dat .bool))], [], [], []⟩, false)]) (.leaf))
def pattern_is_c (F : Nat) : Ctr E := ⟨pattern_is_s, fun (x : (List Tchar) × Int × Int) => pattern_is F x.1 x.2.1 x.2.2⟩
theorem pattern_is_ok (F : Nat) : (pattern_is_c F).Ok Tryz.prog := Ctr.ok_of (X := ⟨Tryz.prog, tyT, [], []⟩) (F := F) ⟨E_ok, okN, mixed, goN⟩ (pl := pattern_is_p) Tryz.func56 (by kernel_rfl) (fun x => by kernel_rfl)
def pattern_spans (F : Nat)  (a0 : List Bool) : Option (List TSpan) :=
 rq (Nat.beq a0.length 256) (loopF (σ := (List TSpan) × Int × (List Bool)) (R := List TSpan) (fun rc2 x1 =>
 cond (decide (x1.2.1 < 256))
 (rq ((decide (0 ≤ x1.2.1)) && ((decide (x1.2.1 < 256)) && (decide (x1.2.1 < (x1.2.2.length : Int))))) (cond (!(x1.2.2.getD (Int.toNat x1.2.1) false))
 (rc2 (x1.1, w64 (x1.2.1 + 1), x1.2.2))
 (loopF (σ := Int × (List Bool)) (R := List TSpan) (fun rc4 x3 =>
 (cond (decide (x3.1 < 255))
 (rq ((decide (0 ≤ w64 (x3.1 + 1))) && ((decide (w64 (x3.1 + 1) < 256)) && (decide (w64 (x3.1 + 1) < (x3.2.length : Int))))) (some (x3.2.getD (Int.toNat (w64 (x3.1 + 1))) false, x3.2)))
 (some (false, x3.2)) : Option (Bool × (List Bool))).bind fun x5 =>
 cond x5.1
 (rc4 (w64 (x3.1 + 1), x5.2))
 (rq ((decide (x1.1.length + ([(TSpan.mk (IntKind.wrap .u8 x1.2.1) (IntKind.wrap .u8 x3.1))] : List TSpan).length ≤ 9223372036854775807)) && (decide ((x1.1.length + ([(TSpan.mk (IntKind.wrap .u8 x1.2.1) (IntKind.wrap .u8 x3.1))] : List TSpan).length) * 2 ≤ 140737488355328))) (rc2 (x1.1 ++ ([(TSpan.mk (IntKind.wrap .u8 x1.2.1) (IntKind.wrap .u8 x3.1))] : List TSpan), w64 (x3.1 + 1), x5.2)))) F (x1.2.1, x1.2.2))))
 (some x1.1)) F (([] : List TSpan), 0, a0))
def pattern_spans_s : Shp := ⟨77, [.one (.aval .bool)], [], [], ⟨.one (.dat (.lst (.ext 3))), [], [], []⟩, none, []⟩
def pattern_spans_p : Plan := .seq [] none (.leaf) (.seq [] none (.leaf) (.seq [.slot 3 129 (.ext 3)] none (.seq [] none (.leaf) (.loop [] ⟨[(3, .one (.gsl 1 (.ext 3))), (4, .one (.dat (.int .i64)))], [], [none, some (129, 2)], [(0, .bool)]⟩ (.seq [] none (.leaf) (.seq [] none (.seq [] none (.leaf) (.seq [] none (.leaf) (.seq [] none (.loop [] ⟨[(4, .one (.dat (.int .i64)))], [], [none, none], [(0, .bool)]⟩ (.seq [] none (.seq [] none (.region [(8, ⟨[(22, .one (.dat .bool))], [], [none, none], [(0, .bool)]⟩, false)]) (.leaf)) (.leaf))) (.leaf)))) (.leaf))))) (.leaf)))
def pattern_spans_c (F : Nat) : Ctr E := ⟨pattern_spans_s, fun (x : List Bool) => pattern_spans F x⟩
theorem pattern_spans_ok (F : Nat) : (pattern_spans_c F).Ok Tryz.prog := Ctr.ok_of (X := ⟨Tryz.prog, tyT, [], []⟩) (F := F) ⟨E_ok, okN, mixed, goN⟩ (pl := pattern_spans_p) Tryz.func77 (by kernel_rfl) (fun x => by kernel_rfl)
def pattern_class (F : Nat)  (a0 : List Tchar) (a1 : Int) : Option ((List UInt8) × Int × Bool) :=
 ((pattern_is F a0 a1 91).bind fun x2 =>
 cond (!x2)
 (some true)
 ((pattern_is F a0 (w64 (a1 + 1)) 58).bind fun x3 =>
 some (!x3)) : Option Bool).bind fun x1 =>
 cond x1
 (some ([], 0, false))
 (loopF (σ := Int × (List Int)) (R := (List UInt8) × Int × Bool) (fun rc5 x4 =>
 (cond (decide (x4.1 < (a0.length : Int)))
 (rq ((decide (0 ≤ x4.1)) && (decide (x4.1 < (a0.length : Int)))) (some ((a0.getD (Int.toNat x4.1) dTchar).factive)))
 (some false) : Option Bool).bind fun x6 =>
 (cond x6
 (rq ((decide (0 ≤ x4.1)) && (decide (x4.1 < (a0.length : Int)))) (some (decide (97 ≤ (a0.getD (Int.toNat x4.1) dTchar).fb))))
 (some false) : Option Bool).bind fun x7 =>
 (cond x7
 (rq ((decide (0 ≤ x4.1)) && (decide (x4.1 < (a0.length : Int)))) (some (decide ((a0.getD (Int.toNat x4.1) dTchar).fb ≤ 122))))
 (some false) : Option Bool).bind fun x8 =>
 cond x8
 (rq ((decide (0 ≤ x4.1)) && (decide (x4.1 < (a0.length : Int)))) (rq ((decide (x4.2.length + ([(a0.getD (Int.toNat x4.1) dTchar).fb] : List Int).length ≤ 9223372036854775807)) && (decide ((x4.2.length + ([(a0.getD (Int.toNat x4.1) dTchar).fb] : List Int).length) * 1 ≤ 140737488355328))) (rc5 (w64 (x4.1 + 1), x4.2 ++ ([(a0.getD (Int.toNat x4.1) dTchar).fb] : List Int)))))
 (((pattern_is F a0 x4.1 58).bind fun x10 =>
 cond (!x10)
 (some true)
 ((pattern_is F a0 (w64 (x4.1 + 1)) 93).bind fun x11 =>
 some (!x11)) : Option Bool).bind fun x9 =>
 cond x9
 (some ([], 0, false))
 ((cond ((toBytes x4.2) == ([97, 108, 112, 104, 97] : List UInt8))
 (some ((toBytes x4.2) == ([97, 108, 112, 104, 97] : List UInt8)))
 (cond ((toBytes x4.2) == ([100, 105, 103, 105, 116] : List UInt8))
 (some ((toBytes x4.2) == ([100, 105, 103, 105, 116] : List UInt8)))
 (cond ((toBytes x4.2) == ([97, 108, 110, 117, 109] : List UInt8))
 (some ((toBytes x4.2) == ([97, 108, 110, 117, 109] : List UInt8)))
 (cond ((toBytes x4.2) == ([117, 112, 112, 101, 114] : List UInt8))
 (some ((toBytes x4.2) == ([117, 112, 112, 101, 114] : List UInt8)))
 (cond ((toBytes x4.2) == ([108, 111, 119, 101, 114] : List UInt8))
 (some ((toBytes x4.2) == ([108, 111, 119, 101, 114] : List UInt8)))
 (cond ((toBytes x4.2) == ([115, 112, 97, 99, 101] : List UInt8))
 (some ((toBytes x4.2) == ([115, 112, 97, 99, 101] : List UInt8)))
 (cond ((toBytes x4.2) == ([98, 108, 97, 110, 107] : List UInt8))
 (some ((toBytes x4.2) == ([98, 108, 97, 110, 107] : List UInt8)))
 (some ((toBytes x4.2) == ([112, 117, 110, 99, 116] : List UInt8))))))))) : Option Bool).bind fun x12 =>
 cond x12
 (some (toBytes x4.2, w64 (x4.1 + 2), true))
 (some ([], 0, false))))) F (w64 (a1 + 2), ([] : List Int)))
def pattern_class_s : Shp := ⟨105, [.one (.dat (.lst (.ext 8))), .one (.dat (.int .i64))], [], [], ⟨.tup [.dat .str, .dat (.int .i64), .dat .bool], [], [], []⟩, none, []⟩
def pattern_class_p : Plan := .seq [] none (.leaf) (.seq [] none (.seq [] none (.region [(11, ⟨[(18, .one (.dat .bool))], [], [], []⟩, false)]) (.leaf)) (.seq [] none (.leaf) (.seq [] none (.leaf) (.seq [.slot 7 5 (.int .u8)] none (.loop [] ⟨[(1, .one (.dat (.int .i64))), (7, .one (.gsl 0 (.int .u8)))], [], [some (5, 1)], []⟩ (.seq [] none (.seq [] none (.region [(11, ⟨[(31, .one (.dat .bool))], [], [none], []⟩, false), (8, ⟨[(39, .one (.dat .bool))], [], [none], []⟩, false), (8, ⟨[(47, .one (.dat .bool))], [], [none], []⟩, false)]) (.leaf)) (.leaf))) (.seq [] none (.seq [] none (.region [(11, ⟨[(68, .one (.dat .bool))], [], [none], []⟩, false)]) (.leaf)) (.seq [] none (.seq [] none (.leaf) (.seq [] (some (⟨[(71, .one (.dat .bool))], [], [none], []⟩, false)) (.leaf) (.leaf))) (.leaf)))))))
def pattern_class_c (F : Nat) : Ctr E := ⟨pattern_class_s, fun (x : (List Tchar) × Int) => pattern_class F x.1 x.2⟩
theorem pattern_class_ok (F : Nat) : (pattern_class_c F).Ok Tryz.prog := Ctr.ok_of (X := ⟨Tryz.prog, tyT, [pattern_is_c F], []⟩) (F := F) ⟨E_ok, okC (pattern_is_ok F) (okN), mixed, goN⟩ (pl := pattern_class_p) Tryz.func105 (by kernel_rfl) (fun x => by kernel_rfl)
def pattern_within (F : Nat)  (a0 : List UInt8) (a1 : Int) : Option Bool :=
 (cond (decide (65 ≤ a1))
 (some (decide (a1 ≤ 90)))
 (some false) : Option Bool).bind fun x1 =>
 (cond (decide (97 ≤ a1))
 (some (decide (a1 ≤ 122)))
 (some false) : Option Bool).bind fun x2 =>
 (cond (decide (48 ≤ a1))
 (some (decide (a1 ≤ 57)))
 (some false) : Option Bool).bind fun x3 =>
 cond (a0 == ([97, 108, 112, 104, 97] : List UInt8))
 ((cond x1
 (some true)
 (some x2) : Option Bool).bind fun x4 =>
 some x4)
 (cond (a0 == ([100, 105, 103, 105, 116] : List UInt8))
 (some x3)
 (cond (a0 == ([97, 108, 110, 117, 109] : List UInt8))
 ((cond x1
 (some true)
 (some x2) : Option Bool).bind fun x5 =>
 (cond x5
 (some true)
 (some x3) : Option Bool).bind fun x6 =>
 some x6)
 (cond (a0 == ([117, 112, 112, 101, 114] : List UInt8))
 (some x1)
 (cond (a0 == ([108, 111, 119, 101, 114] : List UInt8))
 (some x2)
 (cond (a0 == ([115, 112, 97, 99, 101] : List UInt8))
 ((cond (decide (9 ≤ a1))
 (some (decide (a1 ≤ 13)))
 (some false) : Option Bool).bind fun x7 =>
 (cond x7
 (some true)
 (some (a1 == 32)) : Option Bool).bind fun x8 =>
 some x8)
 (cond (a0 == ([98, 108, 97, 110, 107] : List UInt8))
 ((cond (a1 == 9)
 (some true)
 (some (a1 == 32)) : Option Bool).bind fun x9 =>
 some x9)
 ((cond (decide (33 ≤ a1))
 (some (decide (a1 ≤ 47)))
 (some false) : Option Bool).bind fun x10 =>
 (cond x10
 (some true)
 (cond (decide (58 ≤ a1))
 (some (decide (a1 ≤ 64)))
 (some false)) : Option Bool).bind fun x11 =>
 (cond x11
 (some true)
 (cond (decide (91 ≤ a1))
 (some (decide (a1 ≤ 96)))
 (some false)) : Option Bool).bind fun x12 =>
 (cond x12
 (some true)
 (cond (decide (123 ≤ a1))
 (some (decide (a1 ≤ 126)))
 (some false)) : Option Bool).bind fun x13 =>
 some x13)))))))
def pattern_within_s : Shp := ⟨106, [.one (.dat .str), .one (.dat (.int .i64))], [], [], ⟨.one (.dat .bool), [], [], []⟩, none, []⟩
def pattern_within_p : Plan := .seq [] none (.leaf) (.seq [] none (.region [(6, ⟨[(13, .one (.dat .bool))], [], [], []⟩, false)]) (.seq [] none (.region [(6, ⟨[(19, .one (.dat .bool))], [], [], []⟩, false)]) (.seq [] none (.region [(6, ⟨[(25, .one (.dat .bool))], [], [], []⟩, false)]) (.seq [] none (.seq [] none (.leaf) (.seq [] none (.leaf) (.cond (.seq [] none (.region [(4, ⟨[(32, .one (.dat .bool))], [], [], []⟩, false)]) (.leaf)) (.seq [] none (.leaf) (.cond (.leaf) (.seq [] none (.leaf) (.cond (.seq [] none (.region [(4, ⟨[(41, .one (.dat .bool))], [], [], []⟩, false), (3, ⟨[(44, .one (.dat .bool))], [], [], []⟩, false)]) (.leaf)) (.seq [] none (.leaf) (.cond (.leaf) (.seq [] none (.leaf) (.cond (.leaf) (.seq [] none (.leaf) (.cond (.seq [] none (.region [(6, ⟨[(58, .one (.dat .bool))], [], [], []⟩, false), (4, ⟨[(62, .one (.dat .bool))], [], [], []⟩, false)]) (.leaf)) (.seq [] none (.leaf) (.cond (.seq [] none (.region [(6, ⟨[(70, .one (.dat .bool))], [], [], []⟩, false)]) (.leaf)) (.leaf)))))))))))))))) (.seq [] none (.region [(6, ⟨[(76, .one (.dat .bool))], [], [], []⟩, false), (8, ⟨[(84, .one (.dat .bool))], [], [], []⟩, false), (8, ⟨[(92, .one (.dat .bool))], [], [], []⟩, false), (8, ⟨[(100, .one (.dat .bool))], [], [], []⟩, false)]) (.leaf))))))
def pattern_within_c (F : Nat) : Ctr E := ⟨pattern_within_s, fun (x : (List UInt8) × Int) => pattern_within F x.1 x.2⟩
theorem pattern_within_ok (F : Nat) : (pattern_within_c F).Ok Tryz.prog := Ctr.ok_of (X := ⟨Tryz.prog, tyT, [], []⟩) (F := F) ⟨E_ok, okN, mixed, goN⟩ (pl := pattern_within_p) Tryz.func106 (by kernel_rfl) (fun x => by kernel_rfl)
def pattern_member (F : Nat)  (a0 : List Tchar) (a1 : Int) (a2 : List Bool) : Option (Int × (List Bool)) :=
 (pattern_class F a0 a1).bind fun x1 =>
 cond x1.2.2
 (loopF (σ := Int × (List Bool)) (R := Int × (List Bool)) (fun rc3 x2 =>
 cond (decide (x2.1 < 256))
 ((pattern_within F x1.1 x2.1).bind fun x4 =>
 cond x4
 (rq ((decide (0 ≤ x2.1)) && ((decide (x2.1 < 256)) && (decide (x2.1 < (x2.2.length : Int))))) (rc3 (w64 (x2.1 + 1), x2.2.set (Int.toNat x2.1) true)))
 (rc3 (w64 (x2.1 + 1), x2.2)))
 (some (x1.2.1, x2.2))) F (0, a2))
 (((pattern_is F a0 (w64 (a1 + 1)) 45).bind fun x6 =>
 cond x6
 (some (decide (w64 (a1 + 2) < (a0.length : Int)), a2))
 (some (false, a2)) : Option (Bool × (List Bool))).bind fun x5 =>
 (cond x5.1
 ((pattern_is F a0 (w64 (a1 + 2)) 93).bind fun x8 =>
 some (!x8, x5.2))
 (some (false, x5.2)) : Option (Bool × (List Bool))).bind fun x7 =>
 cond x7.1
 (rq ((decide (0 ≤ a1)) && (decide (a1 < (a0.length : Int)))) (loopF (σ := Int × (List Bool)) (R := Int × (List Bool)) (fun rc10 x9 =>
 rq ((decide (0 ≤ w64 (a1 + 2))) && (decide (w64 (a1 + 2) < (a0.length : Int)))) (cond (decide (x9.1 ≤ w64 ((a0.getD (Int.toNat (w64 (a1 + 2))) dTchar).fb)))
 (rq ((decide (0 ≤ x9.1)) && ((decide (x9.1 < 256)) && (decide (x9.1 < (x9.2.length : Int))))) (rc10 (w64 (x9.1 + 1), x9.2.set (Int.toNat x9.1) true)))
 (some (w64 (a1 + 3), x9.2)))) F (w64 ((a0.getD (Int.toNat a1) dTchar).fb), x7.2)))
 (rq ((decide (0 ≤ a1)) && (decide (a1 < (a0.length : Int)))) (rq ((decide (0 ≤ (a0.getD (Int.toNat a1) dTchar).fb)) && ((decide ((a0.getD (Int.toNat a1) dTchar).fb < 256)) && (decide ((a0.getD (Int.toNat a1) dTchar).fb < (x7.2.length : Int))))) (some (w64 (a1 + 1), x7.2.set (Int.toNat ((a0.getD (Int.toNat a1) dTchar).fb)) true)))))
def pattern_member_s : Shp := ⟨78, [.one (.dat (.lst (.ext 8))), .one (.dat (.int .i64)), .one (.rptr 0 1)], [], [(124, 1)], ⟨.one (.dat (.int .i64)), [], [none], [(0, .bool)]⟩, none, [(0, .bool)]⟩
def pattern_member_p : Plan := .seq [] none (.leaf) (.seq [] none (.seq [] none (.leaf) (.seq [] none (.leaf) (.cond (.seq [] none (.seq [] none (.leaf) (.loop [] ⟨[(20, .one (.dat (.int .i64)))], [], [none], [(0, .bool)]⟩ (.leaf))) (.leaf)) (.leaf)))) (.seq [] none (.seq [] none (.region [(11, ⟨[(42, .one (.dat .bool))], [], [none], [(0, .bool)]⟩, false), (7, ⟨[(49, .one (.dat .bool))], [], [none], [(0, .bool)]⟩, false)]) (.cond (.seq [] none (.seq [] none (.leaf) (.loop [] ⟨[(11, .one (.dat (.int .i64)))], [], [none], [(0, .bool)]⟩ (.leaf))) (.leaf)) (.leaf))) (.seq [] none (.draw [⟨true, 8, none⟩, ⟨false, 1, none⟩]) (.leaf))))
def pattern_member_c (F : Nat) : Ctr E := ⟨pattern_member_s, fun (x : (List Tchar) × Int × (List Bool)) => pattern_member F x.1 x.2.1 x.2.2⟩
theorem pattern_member_ok (F : Nat) : (pattern_member_c F).Ok Tryz.prog := Ctr.ok_of (X := ⟨Tryz.prog, tyT, [pattern_class_c F, pattern_within_c F, pattern_is_c F], []⟩) (F := F) ⟨E_ok, okC (pattern_class_ok F) (okC (pattern_within_ok F) (okC (pattern_is_ok F) (okN))), mixed, goN⟩ (pl := pattern_member_p) Tryz.func78 (by kernel_rfl) (fun x => by kernel_rfl)
def pattern_bracket (F : Nat)  (a0 : List Tchar) (a1 : Int) : Option (TPatItem × Int × Bool) :=
 ((pattern_is F a0 (w64 (a1 + 1)) 33).bind fun x2 =>
 cond x2
 (some true)
 ((pattern_is F a0 (w64 (a1 + 1)) 94).bind fun x3 =>
 some x3) : Option Bool).bind fun x1 =>
 (cond x1
 (some (w64 ((w64 (a1 + 1)) + 1)))
 (some (w64 (a1 + 1))) : Option Int).bind fun x4 =>
 loopF (σ := Int × Bool × (List Bool)) (R := TPatItem × Int × Bool) (fun rc6 x5 =>
 cond (decide (x5.1 < (a0.length : Int)))
 (((pattern_is F a0 x5.1 93).bind fun x8 =>
 cond x8
 (some (!x5.2.1, x5.2.2))
 (some (false, x5.2.2)) : Option (Bool × (List Bool))).bind fun x7 =>
 cond x7.1
 (rq (Nat.beq (x7.2.length * 1) 256) ((pattern_spans F x7.2).bind fun x9 =>
 some ((TPatItem.mk 4 [] x1 x9), w64 (x5.1 + 1), true)))
 ((pattern_member F a0 x5.1 x7.2).bind fun x10 =>
 rc6 (x10.1, false, x10.2)))
 (some ((TPatItem.mk 0 [] false []), 0, false))) F (x4, true, List.replicate 256 false)
def pattern_bracket_s : Shp := ⟨57, [.one (.dat (.lst (.ext 8))), .one (.dat (.int .i64))], [], [], ⟨.tup [.dat (.ext 2), .dat (.int .i64), .dat .bool], [], [], []⟩, none, []⟩
def pattern_bracket_p : Plan := .seq [] none (.leaf) (.seq [] none (.leaf) (.seq [] none (.region [(8, ⟨[(19, .one (.dat .bool))], [none], [], []⟩, false)]) (.seq [] (some (⟨[(1, .one (.dat (.int .i64)))], [none], [], []⟩, false)) (.leaf) (.seq [] none (.leaf) (.seq [] none (.seq [] none (.leaf) (.loop [] ⟨[(1, .one (.dat (.int .i64))), (9, .one (.dat .bool))], [none], [none], [(0, .bool)]⟩ (.seq [] none (.leaf) (.seq [] none (.seq [] none (.seq [] none (.region [(7, ⟨[(33, .one (.dat .bool))], [none], [none], [(0, .bool)]⟩, false)]) (.leaf)) (.leaf)) (.leaf))))) (.leaf))))))
def pattern_bracket_c (F : Nat) : Ctr E := ⟨pattern_bracket_s, fun (x : (List Tchar) × Int) => pattern_bracket F x.1 x.2⟩
theorem pattern_bracket_ok (F : Nat) : (pattern_bracket_c F).Ok Tryz.prog := Ctr.ok_of (X := ⟨Tryz.prog, tyT, [pattern_is_c F, pattern_spans_c F, pattern_member_c F], []⟩) (F := F) ⟨E_ok, okC (pattern_is_ok F) (okC (pattern_spans_ok F) (okC (pattern_member_ok F) (okN))), mixed, goN⟩ (pl := pattern_bracket_p) Tryz.func57 (by kernel_rfl) (fun x => by kernel_rfl)
def pattern_Compile (F : Nat)  (a0 : List TRun) : Option (List TPatItem) :=
 (pattern_chars F a0).bind fun x1 =>
 loopF (σ := (List TPatItem) × Int) (R := List TPatItem) (fun rc3 x2 =>
 cond (decide (x2.2 < (x1.length : Int)))
 (jj (σ := (List TPatItem) × Int) (R := List TPatItem) ((pattern_is F x1 x2.2 91).bind fun x5 =>
 cond x5
 ((pattern_bracket F x1 x2.2).bind fun x6 =>
 cond x6.2.2
 (rq ((decide (x2.1.length + ([x6.1] : List TPatItem).length ≤ 9223372036854775807)) && (decide ((x2.1.length + ([x6.1] : List TPatItem).length) * 56 ≤ 140737488355328))) (retK (rc3 (x2.1 ++ ([x6.1] : List TPatItem), x6.2.1))))
 (some (.inl (x2.1, x2.2))))
 (some (.inl (x2.1, x2.2)))) fun x4 =>
 (pattern_is F x1 x4.2 42).bind fun x7 =>
 cond x7
 (rq ((decide (x4.1.length + ([(TPatItem.mk 3 [] false [])] : List TPatItem).length ≤ 9223372036854775807)) && (decide ((x4.1.length + ([(TPatItem.mk 3 [] false [])] : List TPatItem).length) * 56 ≤ 140737488355328))) (rc3 (x4.1 ++ ([(TPatItem.mk 3 [] false [])] : List TPatItem), w64 (x4.2 + 1))))
 ((pattern_is F x1 x4.2 63).bind fun x8 =>
 cond x8
 (rq ((decide (x4.1.length + ([(TPatItem.mk 2 [] false [])] : List TPatItem).length ≤ 9223372036854775807)) && (decide ((x4.1.length + ([(TPatItem.mk 2 [] false [])] : List TPatItem).length) * 56 ≤ 140737488355328))) (rc3 (x4.1 ++ ([(TPatItem.mk 2 [] false [])] : List TPatItem), w64 (x4.2 + 1))))
 (rq ((decide (0 ≤ x4.2)) && (decide (x4.2 < (x1.length : Int)))) (rq ((decide (x4.1.length + ([(TPatItem.mk 1 (toBytes ([(x1.getD (Int.toNat x4.2) dTchar).fb] : List Int)) false [])] : List TPatItem).length ≤ 9223372036854775807)) && (decide ((x4.1.length + ([(TPatItem.mk 1 (toBytes ([(x1.getD (Int.toNat x4.2) dTchar).fb] : List Int)) false [])] : List TPatItem).length) * 56 ≤ 140737488355328))) (rc3 (x4.1 ++ ([(TPatItem.mk 1 (toBytes ([(x1.getD (Int.toNat x4.2) dTchar).fb] : List Int)) false [])] : List TPatItem), w64 (x4.2 + 1)))))))
 (some x2.1)) F (([] : List TPatItem), 0)
def pattern_Compile_s : Shp := ⟨29, [.one (.dat (.lst (.ext 1)))], [], [], ⟨.one (.dat (.lst (.ext 2))), [], [], []⟩, none, []⟩
def pattern_Compile_p : Plan := .seq [] none (.leaf) (.seq [] none (.leaf) (.seq [] none (.leaf) (.seq [.slot 4 100 (.ext 2)] none (.seq [] none (.leaf) (.loop [] ⟨[(4, .one (.gsl 0 (.ext 2))), (5, .one (.dat (.int .i64)))], [], [some (100, 4)], []⟩ (.seq [] none (.leaf) (.seq [] (some (⟨[(4, .one (.gsl 0 (.ext 2))), (5, .one (.dat (.int .i64)))], [], [none], []⟩, true)) (.leaf) (.leaf))))) (.leaf))))
def pattern_Compile_c (F : Nat) : Ctr E := ⟨pattern_Compile_s, fun (x : List TRun) => pattern_Compile F x⟩
theorem pattern_Compile_ok (F : Nat) : (pattern_Compile_c F).Ok Tryz.prog := Ctr.ok_of (X := ⟨Tryz.prog, tyT, [pattern_chars_c F, pattern_is_c F, pattern_bracket_c F], []⟩) (F := F) ⟨E_ok, okC (pattern_chars_ok F) (okC (pattern_is_ok F) (okC (pattern_bracket_ok F) (okN))), mixed, goN⟩ (pl := pattern_Compile_p) Tryz.func29 (by kernel_rfl) (fun x => by kernel_rfl)
def pattern_valid (F : Nat)  (a0 : List TPatItem) : Option Bool :=
 loopF (σ := Int) (R := Bool) (fun rc2 x1 =>
 cond (decide (x1 < (a0.length : Int)))
 (rq ((decide (0 ≤ x1)) && (decide (x1 < (a0.length : Int)))) ((cond (((a0.getD (Int.toNat x1) dTPatItem).fKind) == 1)
 (some 1)
 (some 0) : Option Int).bind fun x3 =>
 (cond (decide ((a0.getD (Int.toNat x1) dTPatItem).fKind < 1))
 (some true)
 (some (decide (4 < (a0.getD (Int.toNat x1) dTPatItem).fKind))) : Option Bool).bind fun x4 =>
 (cond x4
 (some true)
 (some ((((a0.getD (Int.toNat x1) dTPatItem).fText).length : Int) != x3)) : Option Bool).bind fun x5 =>
 cond x5
 (some false)
 ((cond (((a0.getD (Int.toNat x1) dTPatItem).fKind) != 4)
 (cond ((a0.getD (Int.toNat x1) dTPatItem).fNeg)
 (some true)
 (some (decide (0 < (((a0.getD (Int.toNat x1) dTPatItem).fSet).length : Int)))))
 (some false) : Option Bool).bind fun x6 =>
 cond x6
 (some false)
 (loopF (σ := Int) (R := Bool) (fun rc8 x7 =>
 cond (decide (x7 < (((a0.getD (Int.toNat x1) dTPatItem).fSet).length : Int)))
 (rq ((decide (0 ≤ x7)) && (decide (x7 < (((a0.getD (Int.toNat x1) dTPatItem).fSet).length : Int)))) ((cond (decide ((((a0.getD (Int.toNat x1) dTPatItem).fSet).getD (Int.toNat x7) dTSpan).fHigh < (((a0.getD (Int.toNat x1) dTPatItem).fSet).getD (Int.toNat x7) dTSpan).fLow))
 (some true)
 (cond (decide (0 < x7))
 (rq ((decide (0 ≤ w64 (x7 - 1))) && (decide (w64 (x7 - 1) < (((a0.getD (Int.toNat x1) dTPatItem).fSet).length : Int)))) (some (decide (w64 ((((a0.getD (Int.toNat x1) dTPatItem).fSet).getD (Int.toNat x7) dTSpan).fLow) ≤ w64 ((w64 ((((a0.getD (Int.toNat x1) dTPatItem).fSet).getD (Int.toNat (w64 (x7 - 1))) dTSpan).fHigh)) + 1)))))
 (some false)) : Option Bool).bind fun x9 =>
 cond x9
 (some false)
 (rc8 (w64 (x7 + 1)))))
 (rc2 (w64 (x1 + 1)))) F 0))))
 (some true)) F 0
def pattern_valid_s : Shp := ⟨58, [.one (.dat (.lst (.ext 2)))], [], [], ⟨.one (.dat .bool), [], [], []⟩, none, []⟩
def pattern_valid_p : Plan := .seq [] none (.leaf) (.seq [] none (.seq [] none (.leaf) (.loop [] ⟨[(10, .one (.dat (.int .i64)))], [], [], []⟩ (.seq [] none (.leaf) (.seq [] none (.leaf) (.seq [] none (.seq [] none (.leaf) (.seq [] none (.leaf) (.seq [] (some (⟨[(5, .one (.dat (.int .i64)))], [none], [], []⟩, false)) (.leaf) (.seq [] none (.seq [] none (.region [(8, ⟨[(24, .one (.dat .bool))], [none], [], []⟩, false), (7, ⟨[(31, .one (.dat .bool))], [none], [], []⟩, false)]) (.leaf)) (.seq [] none (.seq [] none (.region [(13, ⟨[(44, .one (.dat .bool))], [none], [], []⟩, false)]) (.leaf)) (.seq [] none (.leaf) (.loop [] ⟨[(48, .one (.dat (.int .i64)))], [none], [], []⟩ (.seq [] none (.leaf) (.seq [] none (.leaf) (.seq [] none (.seq [] none (.leaf) (.seq [] none (.draw [⟨true, 24, some ⟨[(76, .one (.dat .bool))], [none, none], [], []⟩⟩]) (.leaf))) (.leaf))))))))))) (.leaf)))))) (.leaf))
def pattern_valid_c (F : Nat) : Ctr E := ⟨pattern_valid_s, fun (x : List TPatItem) => pattern_valid F x⟩
theorem pattern_valid_ok (F : Nat) : (pattern_valid_c F).Ok Tryz.prog := Ctr.ok_of (X := ⟨Tryz.prog, tyT, [], []⟩) (F := F) ⟨E_ok, okN, mixed, goN⟩ (pl := pattern_valid_p) Tryz.func58 (by kernel_rfl) (fun x => by kernel_rfl)
def pattern_Literal (F : Nat)  (a0 : List TPatItem) : Option ((List UInt8) × Bool) :=
 (pattern_valid F a0).bind fun x1 =>
 cond (!x1)
 (some ([], false))
 (loopF (σ := (List Int) × Int) (R := (List UInt8) × Bool) (fun rc3 x2 =>
 cond (decide (x2.2 < (a0.length : Int)))
 (rq ((decide (0 ≤ x2.2)) && (decide (x2.2 < (a0.length : Int)))) (cond (((a0.getD (Int.toNat x2.2) dTPatItem).fKind) != 1)
 (some ([], false))
 (rq ((decide (x2.1.length + (toInts ((a0.getD (Int.toNat x2.2) dTPatItem).fText)).length ≤ 9223372036854775807)) && (decide ((x2.1.length + (toInts ((a0.getD (Int.toNat x2.2) dTPatItem).fText)).length) * 1 ≤ 140737488355328))) (rc3 (x2.1 ++ (toInts ((a0.getD (Int.toNat x2.2) dTPatItem).fText)), w64 (x2.2 + 1))))))
 (some (toBytes x2.1, true))) F (([] : List Int), 0))
def pattern_Literal_s : Shp := ⟨30, [.one (.dat (.lst (.ext 2)))], [], [], ⟨.tup [.dat .str, .dat .bool], [], [], []⟩, none, []⟩
def pattern_Literal_p : Plan := .seq [] none (.leaf) (.seq [] none (.leaf) (.seq [] none (.leaf) (.seq [.slot 4 5 (.int .u8)] none (.seq [] none (.leaf) (.loop [] ⟨[(4, .one (.gsl 0 (.int .u8))), (12, .one (.dat (.int .i64)))], [], [some (5, 1)], []⟩ (.leaf))) (.leaf))))
def pattern_Literal_c (F : Nat) : Ctr E := ⟨pattern_Literal_s, fun (x : List TPatItem) => pattern_Literal F x⟩
theorem pattern_Literal_ok (F : Nat) : (pattern_Literal_c F).Ok Tryz.prog := Ctr.ok_of (X := ⟨Tryz.prog, tyT, [pattern_valid_c F], []⟩) (F := F) ⟨E_ok, okC (pattern_valid_ok F) (okN), mixed, goN⟩ (pl := pattern_Literal_p) Tryz.func30 (by kernel_rfl) (fun x => by kernel_rfl)
def pathname_Expand_y (F : Nat)  (a0 : List TRun) (a1 : List TFile) (a2 : List Tcomponent) (a3 : Bool) (a4 : List (Tplace × Bool)) (a5 : List (List UInt8)) (a6 : List (List UInt8)) : Option ((List TFile) × (List Tcomponent) × Bool × (List (List UInt8)) × (List (List UInt8))) :=
 (split_Text F a0).bind fun x1 =>
 (pattern_Compile F a0).bind fun x2 =>
 (pattern_Literal F ((Tcomponent.mk x1 x2 false).fpattern)).bind fun x3 =>
 (cond a3
 (some (x3.2, a5, a6))
 (some (false, a5, a6)) : Option (Bool × (List (List UInt8)) × (List (List UInt8)))).bind fun x4 =>
 rq ((decide (a2.length + ([(Tcomponent.mk ((Tcomponent.mk x1 x2 false).ftext) ((Tcomponent.mk x1 x2 false).fpattern) x3.2)] : List Tcomponent).length ≤ 9223372036854775807)) && (decide ((a2.length + ([(Tcomponent.mk ((Tcomponent.mk x1 x2 false).ftext) ((Tcomponent.mk x1 x2 false).fpattern) x3.2)] : List Tcomponent).length) * 48 ≤ 140737488355328))) (rq ((decide (x4.2.1.length + ([(Tcomponent.mk x1 x2 false).ftext] : List (List UInt8)).length ≤ 9223372036854775807)) && (decide ((x4.2.1.length + ([(Tcomponent.mk x1 x2 false).ftext] : List (List UInt8)).length) * 16 ≤ 140737488355328))) (some (a1, a2 ++ ([(Tcomponent.mk ((Tcomponent.mk x1 x2 false).ftext) ((Tcomponent.mk x1 x2 false).fpattern) x3.2)] : List Tcomponent), x4.1, x4.2.1 ++ ([(Tcomponent.mk x1 x2 false).ftext] : List (List UInt8)), x4.2.2)))
def pathname_Expand_y_s : Shp := ⟨3000000, [.one (.dat (.lst (.ext 1))), .one (.any), .one (.any), .one (.any), .one (.any), .one (.any), .one (.any), .one (.any), .one (.any), .one (.any), .one (.any), .one (.ptr 0 0), .one (.ptr 1 0), .one (.any), .one (.any), .one (.any), .one (.any), .one (.any), .one (.any), .one (.any), .one (.any), .one (.any), .one (.any), .one (.any), .one (.any), .one (.any), .one (.any), .one (.any), .one (.any), .one (.any), .one (.any), .one (.any), .one (.any), .one (.any), .one (.any), .one (.any), .one (.any), .one (.any), .one (.any), .one (.any), .one (.any), .one (.any), .one (.any), .one (.any), .one (.any), .one (.any), .one (.any), .one (.any), .one (.any), .one (.any), .one (.any), .one (.any), .one (.any), .one (.any), .one (.any), .one (.any), .one (.any), .one (.any), .one (.any), .one (.any), .one (.any), .one (.any), .one (.any), .one (.any), .one (.any), .one (.any), .one (.any), .one (.any), .one (.any), .one (.any), .one (.any), .one (.any), .one (.any), .one (.any), .one (.any), .one (.any), .one (.any), .one (.any)], [.cells 56 [.dat (.lst (.ext 0)), .gsl 0 (.ext 7), .gso 1, .gso 2, .mref 2], .cells 4 [.dat .bool], .map (.ext 6) .bool], [(63, 3), (9, 1), (9, 1)], ⟨.one (.lb true), [some (.cells 56 [.dat (.lst (.ext 0)), .gsl 0 (.ext 7), .gso 1, .gso 2, .mref 2]), some (.cells 4 [.dat .bool]), none], [some (63, 3), some (9, 1), none], [(1, .str), (2, .str)]⟩, none, [(1, .str), (2, .str)]⟩
def pathname_Expand_y_p : Plan := .seq [] none (.leaf) (.seq [] none (.leaf) (.seq [] none (.region [(5, ⟨[(45, .one (.dat .bool))], [none, none, none, none], [none, none, none], [(1, .str), (2, .str)]⟩, false)]) (.leaf)))
def pathname_Expand_y_c (F : Nat) : Ctr E := ⟨pathname_Expand_y_s, fun (x : (List TRun) × (List TFile) × (List Tcomponent) × Bool × (List (Tplace × Bool)) × (List (List UInt8)) × (List (List UInt8))) => pathname_Expand_y F x.1 x.2.1 x.2.2.1 x.2.2.2.1 x.2.2.2.2.1 x.2.2.2.2.2.1 x.2.2.2.2.2.2⟩
theorem pathname_Expand_y_ok (F : Nat) : (pathname_Expand_y_c F).GOk (YInv E Tryz.prog) := Ctr.yok_of (X := ⟨Tryz.prog, tyT, [split_Text_c F, pattern_Compile_c F, pattern_Literal_c F], []⟩) (F := F) ⟨E_ok, okC (split_Text_ok F) (okC (pattern_Compile_ok F) (okC (pattern_Literal_ok F) (okN))), mixed, goN⟩ (pl := pathname_Expand_y_p) (Y := ydGet 1 Tryz.f10 [true, true, true, true, false, true]) (fun _ h => h) (fun x => by kernel_rfl)
def pathname_pieces_1 (F : Nat)  (a0 : List TRun) (a1 : List TFile) (a2 : List Tcomponent) (a3 : Bool) (a4 : List (Tplace × Bool)) (a5 : List (List UInt8)) (a6 : List (List UInt8)) : Option ((List TFile) × (List Tcomponent) × Bool × (List (List UInt8)) × (List (List UInt8))) :=
 loopF (σ := (List TRun) × Int × (List TFile) × (List Tcomponent) × Bool × (List (List UInt8)) × (List (List UInt8))) (R := (List TFile) × (List Tcomponent) × Bool × (List (List UInt8)) × (List (List UInt8))) (fun rc2 x1 =>
 cond (decide (x1.2.1 < (a0.length : Int)))
 (rq ((decide (0 ≤ x1.2.1)) && (decide (x1.2.1 < (a0.length : Int)))) ((cond (((a0.getD (Int.toNat x1.2.1) dTRun).fClass) != 0)
 (some (((a0.getD (Int.toNat x1.2.1) dTRun).fClass) != 1, x1.2.2.2.2.2.1, x1.2.2.2.2.2.2))
 (some (false, x1.2.2.2.2.2.1, x1.2.2.2.2.2.2)) : Option (Bool × (List (List UInt8)) × (List (List UInt8)))).bind fun x3 =>
 (cond x3.1
 (some (((a0.getD (Int.toNat x1.2.1) dTRun).fClass) != 2, x3.2.1, x3.2.2))
 (some (false, x3.2.1, x3.2.2)) : Option (Bool × (List (List UInt8)) × (List (List UInt8)))).bind fun x4 =>
 cond x4.1
 (rc2 (x1.1, w64 (x1.2.1 + 1), x1.2.2.1, x1.2.2.2.1, x1.2.2.2.2.1, x4.2.1, x4.2.2))
 ((cutF F ((a0.getD (Int.toNat x1.2.1) dTRun).fText) ([47] : List UInt8)).bind fun x5 =>
 rq ((decide (x1.1.length + ([(TRun.mk x5.1 ((a0.getD (Int.toNat x1.2.1) dTRun).fClass))] : List TRun).length ≤ 9223372036854775807)) && (decide ((x1.1.length + ([(TRun.mk x5.1 ((a0.getD (Int.toNat x1.2.1) dTRun).fClass))] : List TRun).length) * 24 ≤ 140737488355328))) (loopF (σ := (List TRun) × (List UInt8) × Bool × (List TFile) × (List Tcomponent) × Bool × (List (List UInt8)) × (List (List UInt8))) (R := (List TFile) × (List Tcomponent) × Bool × (List (List UInt8)) × (List (List UInt8))) (fun rc7 x6 =>
 cond x6.2.2.1
 ((pathname_Expand_y F x6.1 x6.2.2.2.1 x6.2.2.2.2.1 x6.2.2.2.2.2.1 a4 x6.2.2.2.2.2.2.1 x6.2.2.2.2.2.2.2).bind fun x8 =>
 (cutF F x6.2.1 ([47] : List UInt8)).bind fun x9 =>
 rc7 (([(TRun.mk x9.1 ((a0.getD (Int.toNat x1.2.1) dTRun).fClass))] : List TRun), x9.2.1, x9.2.2, x8.1, x8.2.1, x8.2.2.1, x8.2.2.2.1, x8.2.2.2.2))
 (rc2 (x6.1, w64 (x1.2.1 + 1), x6.2.2.2.1, x6.2.2.2.2.1, x6.2.2.2.2.2.1, x6.2.2.2.2.2.2.1, x6.2.2.2.2.2.2.2))) F (x1.1 ++ ([(TRun.mk x5.1 ((a0.getD (Int.toNat x1.2.1) dTRun).fClass))] : List TRun), x5.2.1, x5.2.2, x1.2.2.1, x1.2.2.2.1, x1.2.2.2.2.1, x4.2.1, x4.2.2)))))
 ((pathname_Expand_y F x1.1 x1.2.2.1 x1.2.2.2.1 x1.2.2.2.2.1 a4 x1.2.2.2.2.2.1 x1.2.2.2.2.2.2).bind fun x10 =>
 some (x10.1, x10.2.1, x10.2.2.1, x10.2.2.2.1, x10.2.2.2.2))) F (([] : List TRun), 0, a1, a2, a3, a5, a6)
def pathname_pieces_1_s : Shp := ⟨51, [.one (.yld 0), .one (.ptr 1 0)], [.loop 3000000 [.any, .any, .any, .any, .any, .any, .any, .any, .any, .any, .ptr 2 0, .ptr 3 0, .any, .any, .any, .any, .any, .any, .any, .any, .any, .any, .any, .any, .any, .any, .any, .any, .any, .any, .any, .any, .any, .any, .any, .any, .any, .any, .any, .any, .any, .any, .any, .any, .any, .any, .any, .any, .any, .any, .any, .any, .any, .any, .any, .any, .any, .any, .any, .any, .any, .any, .any, .any, .any, .any, .any, .any, .any, .any, .any, .any, .any, .any, .any, .any, .any], .cells 23 [.dat (.lst (.ext 1))], .cells 56 [.dat (.lst (.ext 0)), .gsl 0 (.ext 7), .gso 1, .gso 2, .mref 4], .cells 4 [.dat .bool], .map (.ext 6) .bool], [(63, 3), (9, 1), (9, 1)], ⟨.tup [], [none, none, some (.cells 56 [.dat (.lst (.ext 0)), .gsl 0 (.ext 7), .gso 1, .gso 2, .mref 4]), some (.cells 4 [.dat .bool]), none], [some (63, 3), some (9, 1), none], [(1, .str), (2, .str)]⟩, none, [(1, .str), (2, .str)]⟩
def pathname_pieces_1_p : Plan := .seq [] none (.leaf) (.seq [.slot 3 78 (.ext 1)] none (.seq [] none (.leaf) (.loop [] ⟨[(3, .one (.gsl 3 (.ext 1))), (11, .one (.dat (.int .i64)))], [none, none, some (.cells 56 [.dat (.lst (.ext 0)), .gsl 0 (.ext 7), .gso 1, .gso 2, .mref 4]), some (.cells 4 [.dat .bool]), none], [some (63, 3), some (9, 1), none, some (78, 2)], [(1, .str), (2, .str)]⟩ (.seq [] none (.leaf) (.seq [] none (.leaf) (.seq [] none (.seq [] none (.leaf) (.seq [] none (.seq [] none (.region [(8, ⟨[(22, .one (.dat .bool))], [none, none, none, none, none, none], [none, none, none, none], [(1, .str), (2, .str)]⟩, false), (5, ⟨[(27, .one (.dat .bool))], [none, none, none, none, none, none], [none, none, none, none], [(1, .str), (2, .str)]⟩, false)]) (.leaf)) (.seq [] none (.leaf) (.seq [] none (.leaf) (.loop [] ⟨[(3, .one (.gsl 3 (.ext 1))), (7, .one (.dat .str)), (8, .one (.dat .bool))], [none, none, some (.cells 56 [.dat (.lst (.ext 0)), .gsl 0 (.ext 7), .gso 1, .gso 2, .mref 4]), some (.cells 4 [.dat .bool]), none, none], [some (63, 3), some (9, 1), none, some (78, 2), none], [(1, .str), (2, .str)]⟩ (.seq [] none (.leaf) (.seq [] none (.seq [] none (.yat 2) (.leaf)) (.leaf)))))))) (.leaf)))))) (.yat 2))
def pathname_pieces_1_c (F : Nat) : Ctr E := ⟨pathname_pieces_1_s, fun (x : (List TRun) × (List TFile) × (List Tcomponent) × Bool × (List (Tplace × Bool)) × (List (List UInt8)) × (List (List UInt8))) => pathname_pieces_1 F x.1 x.2.1 x.2.2.1 x.2.2.2.1 x.2.2.2.2.1 x.2.2.2.2.2.1 x.2.2.2.2.2.2⟩
theorem pathname_pieces_1_ok (F : Nat) : (pathname_pieces_1_c F).Ok Tryz.prog := Ctr.ok_of (X := ⟨Tryz.prog, tyT, [stringsCut_c F], [pathname_Expand_y_c F]⟩) (F := F) ⟨E_ok, okC (stringsCut_ok F) (okN), mixed, goC (pathname_Expand_y_ok F) (goN)⟩ (pl := pathname_pieces_1_p) Tryz.func51 (by kernel_rfl) (fun x => by kernel_rfl)
def files_Find (F : Nat)  (a0 : List TFile) (a1 : List UInt8) : Option (TFile × Bool) :=
 loopF (σ := Int) (R := TFile × Bool) (fun rc2 x1 =>
 cond (decide (x1 < (a0.length : Int)))
 (rq ((decide (0 ≤ x1)) && (decide (x1 < (a0.length : Int)))) (cond (((a0.getD (Int.toNat x1) dTFile).fPath) == a1)
 (some ((a0.getD (Int.toNat x1) dTFile), true))
 (rc2 (w64 (x1 + 1)))))
 (some ((TFile.mk [] false []), false))) F 0
def files_Find_s : Shp := ⟨80, [.one (.dat (.lst (.ext 0))), .one (.dat .str)], [], [], ⟨.tup [.dat (.ext 0), .dat .bool], [], [], []⟩, none, []⟩
def files_Find_p : Plan := .seq [] none (.leaf) (.seq [] none (.seq [] none (.leaf) (.loop [] ⟨[(10, .one (.dat (.int .i64)))], [none], [], []⟩ (.leaf))) (.leaf))
def files_Find_c (F : Nat) : Ctr E := ⟨files_Find_s, fun (x : (List TFile) × (List UInt8)) => files_Find F x.1 x.2⟩
theorem files_Find_ok (F : Nat) : (files_Find_c F).Ok Tryz.prog := Ctr.ok_of (X := ⟨Tryz.prog, tyT, [], []⟩) (F := F) ⟨E_ok, okN, mixed, goN⟩ (pl := files_Find_p) Tryz.func80 (by kernel_rfl) (fun x => by kernel_rfl)
def files_parent (F : Nat)  (a0 : List UInt8) : Option (List UInt8) :=
 (libF F a0 47).bind fun x1 =>
 cond (decide (x1 ≤ 0))
 (some ([47] : List UInt8))
 (rq ((decide (0 ≤ x1)) && (decide (x1 ≤ (a0.length : Int)))) (some (sl a0 0 x1)))
def files_parent_s : Shp := ⟨131, [.one (.dat .str)], [], [], ⟨.one (.dat .str), [], [], []⟩, none, []⟩
def files_parent_p : Plan := .leaf
def files_parent_c (F : Nat) : Ctr E := ⟨files_parent_s, fun (x : List UInt8) => files_parent F x⟩
theorem files_parent_ok (F : Nat) : (files_parent_c F).Ok Tryz.prog := Ctr.ok_of (X := ⟨Tryz.prog, tyT, [stringsLastIndexByte_c F], []⟩) (F := F) ⟨E_ok, okC (stringsLastIndexByte_ok F) (okN), mixed, goN⟩ (pl := files_parent_p) Tryz.func131 (by kernel_rfl) (fun x => by kernel_rfl)
def files_List (F : Nat)  (a0 : List TFile) (a1 : List UInt8) : Option ((List (List UInt8)) × Int) :=
 (files_isPath F a1).bind fun x1 =>
 cond (!x1)
 (some ([], 10))
 ((files_Find F a0 a1).bind fun x2 =>
 cond (!x2.2)
 (some ([], 8))
 (cond (!x2.1.fDir)
 (some ([], 18))
 (loopF (σ := Int × (List (List UInt8))) (R := (List (List UInt8)) × Int) (fun rc4 x3 =>
 cond (decide (x3.1 < (a0.length : Int)))
 (rq ((decide (0 ≤ x3.1)) && (decide (x3.1 < (a0.length : Int)))) ((cond (!(((a0.getD (Int.toNat x3.1) dTFile).fPath) == ([47] : List UInt8)))
 ((files_parent F ((a0.getD (Int.toNat x3.1) dTFile).fPath)).bind fun x6 =>
 some (x6 == a1, x3.2))
 (some (false, x3.2)) : Option (Bool × (List (List UInt8)))).bind fun x5 =>
 cond x5.1
 ((libF F ((a0.getD (Int.toNat x3.1) dTFile).fPath) 47).bind fun x7 =>
 rq ((decide (0 ≤ w64 (x7 + 1))) && ((decide (w64 (x7 + 1) ≤ (((a0.getD (Int.toNat x3.1) dTFile).fPath).length : Int))) && (decide ((((a0.getD (Int.toNat x3.1) dTFile).fPath).length : Int) ≤ (((a0.getD (Int.toNat x3.1) dTFile).fPath).length : Int))))) (rq ((decide (x5.2.length + ([sl ((a0.getD (Int.toNat x3.1) dTFile).fPath) (w64 (x7 + 1)) (((a0.getD (Int.toNat x3.1) dTFile).fPath).length : Int)] : List (List UInt8)).length ≤ 9223372036854775807)) && (decide ((x5.2.length + ([sl ((a0.getD (Int.toNat x3.1) dTFile).fPath) (w64 (x7 + 1)) (((a0.getD (Int.toNat x3.1) dTFile).fPath).length : Int)] : List (List UInt8)).length) * 16 ≤ 140737488355328))) (rc4 (w64 (x3.1 + 1), x5.2 ++ ([sl ((a0.getD (Int.toNat x3.1) dTFile).fPath) (w64 (x7 + 1)) (((a0.getD (Int.toNat x3.1) dTFile).fPath).length : Int)] : List (List UInt8))))))
 (rc4 (w64 (x3.1 + 1), x5.2))))
 ((sortF F x3.2).bind fun x8 =>
 some (x8, 0))) F (0, ([] : List (List UInt8))))))
def files_List_s : Shp := ⟨108, [.one (.dat (.lst (.ext 0))), .one (.dat .str)], [], [], ⟨.tup [.dat (.lst .str), .dat (.int .i64)], [], [], []⟩, none, []⟩
def files_List_p : Plan := .seq [] none (.leaf) (.seq [] none (.leaf) (.seq [] none (.leaf) (.seq [] none (.leaf) (.seq [] none (.leaf) (.seq [] none (.seq [] none (.leaf) (.loop [.soft 8 9 .str] ⟨[(8, .one (.gso 0)), (29, .one (.dat (.int .i64)))], [none], [some (9, 1)], [(0, .str)]⟩ (.seq [] none (.leaf) (.seq [] none (.leaf) (.seq [] none (.seq [] none (.leaf) (.seq [] none (.region [(10, ⟨[(42, .one (.dat .bool))], [none, none], [none], [(0, .str)]⟩, false)]) (.cond (.drawP [1] [] [⟨[(0, true), (1, true), (2, true), (3, true), (4, true), (5, false), (6, false), (7, false), (8, false), (9, false), (10, false)], none⟩]) (.leaf)))) (.leaf)))))) (.leaf))))))
def files_List_c (F : Nat) : Ctr E := ⟨files_List_s, fun (x : (List TFile) × (List UInt8)) => files_List F x.1 x.2⟩
theorem files_List_ok (F : Nat) : (files_List_c F).Ok Tryz.prog := Ctr.ok_of (X := ⟨Tryz.prog, tyT, [files_isPath_c F, files_Find_c F, files_parent_c F, stringsLastIndexByte_c F, slicesSort_c F], []⟩) (F := F) ⟨E_ok, okC (files_isPath_ok F) (okC (files_Find_ok F) (okC (files_parent_ok F) (okC (stringsLastIndexByte_ok F) (okC (slicesSort_ok F) (okN))))), mixed, goN⟩ (pl := files_List_p) Tryz.func108 (by kernel_rfl) (fun x => by kernel_rfl)
def pattern_spread (F : Nat)  (a0 : List TPatItem) (a1 : List Bool) : Option (List Bool) :=
 loopF (σ := Int × (List Bool)) (R := List Bool) (fun rc2 x1 =>
 cond (decide (x1.1 < (a0.length : Int)))
 (rq ((decide (0 ≤ x1.1)) && (decide (x1.1 < (a0.length : Int)))) ((rq ((decide (0 ≤ x1.1)) && (decide (x1.1 < (x1.2.length : Int)))) (cond (x1.2.getD (Int.toNat x1.1) false)
 (some (((a0.getD (Int.toNat x1.1) dTPatItem).fKind) == 3, x1.2))
 (some (false, x1.2))) : Option (Bool × (List Bool))).bind fun x3 =>
 cond x3.1
 (rq ((decide (0 ≤ w64 (x1.1 + 1))) && (decide (w64 (x1.1 + 1) < (x3.2.length : Int)))) (rc2 (w64 (x1.1 + 1), x3.2.set (Int.toNat (w64 (x1.1 + 1))) true)))
 (rc2 (w64 (x1.1 + 1), x3.2))))
 (some x1.2)) F (0, a1)
def pattern_spread_s : Shp := ⟨139, [.one (.dat (.lst (.ext 2))), .one (.gso 0)], [], [(4, 1)], ⟨.tup [], [], [none], [(0, .bool)]⟩, none, [(0, .bool)]⟩
def pattern_spread_p : Plan := .seq [] none (.leaf) (.loop [] ⟨[(8, .one (.dat (.int .i64)))], [], [none], [(0, .bool)]⟩ (.seq [] none (.leaf) (.seq [] none (.leaf) (.seq [] none (.seq [] none (.leaf) (.seq [] none (.region [(9, ⟨[(21, .one (.dat .bool))], [none], [none], [(0, .bool)]⟩, false)]) (.leaf))) (.leaf)))))
def pattern_spread_c (F : Nat) : Ctr E := ⟨pattern_spread_s, fun (x : (List TPatItem) × (List Bool)) => pattern_spread F x.1 x.2⟩
theorem pattern_spread_ok (F : Nat) : (pattern_spread_c F).Ok Tryz.prog := Ctr.ok_of (X := ⟨Tryz.prog, tyT, [], []⟩) (F := F) ⟨E_ok, okN, mixed, goN⟩ (pl := pattern_spread_p) Tryz.func139 (by kernel_rfl) (fun x => by kernel_rfl)
def slices_Index (F : Nat)  (a0 : Bool) (a1 : List Bool) : Option (Int × (List Bool)) :=
 loopF (σ := Int × (List Bool)) (R := Int × (List Bool)) (fun rc2 x1 =>
 cond (decide (x1.1 < (a1.length : Int)))
 (rq ((decide (0 ≤ x1.1)) && (decide (x1.1 < (x1.2.length : Int)))) (cond (a0 == (x1.2.getD (Int.toNat x1.1) false))
 (some (x1.1, x1.2))
 (rc2 (w64 (x1.1 + 1), x1.2))))
 (some ((-1), x1.2))) F (0, a1)
def slices_Index_s : Shp := ⟨142, [.one (.gso 0), .one (.dat .bool)], [], [(4, 1)], ⟨.one (.dat (.int .i64)), [], [none], [(0, .bool)]⟩, none, [(0, .bool)]⟩
def slices_Index_p : Plan := .seq [] none (.leaf) (.seq [] none (.seq [] none (.leaf) (.loop [] ⟨[(8, .one (.dat (.int .i64)))], [], [none], [(0, .bool)]⟩ (.leaf))) (.leaf))
def slices_Index_c (F : Nat) : Ctr E := ⟨slices_Index_s, fun (x : Bool × (List Bool)) => slices_Index F x.1 x.2⟩
theorem slices_Index_ok (F : Nat) : (slices_Index_c F).Ok Tryz.prog := Ctr.ok_of (X := ⟨Tryz.prog, tyT, [], []⟩) (F := F) ⟨E_ok, okN, mixed, goN⟩ (pl := slices_Index_p) Tryz.func142 (by kernel_rfl) (fun x => by kernel_rfl)
def slices_Contains (F : Nat)  (a0 : Bool) (a1 : List Bool) : Option (Bool × (List Bool)) :=
 (slices_Index F a0 a1).bind fun x1 =>
 some (decide (0 ≤ x1.1), x1.2)
def slices_Contains_s : Shp := ⟨140, [.one (.gso 0), .one (.dat .bool)], [], [(4, 1)], ⟨.one (.dat .bool), [], [none], [(0, .bool)]⟩, none, [(0, .bool)]⟩
def slices_Contains_p : Plan := .leaf
def slices_Contains_c (F : Nat) : Ctr E := ⟨slices_Contains_s, fun (x : Bool × (List Bool)) => slices_Contains F x.1 x.2⟩
theorem slices_Contains_ok (F : Nat) : (slices_Contains_c F).Ok Tryz.prog := Ctr.ok_of (X := ⟨Tryz.prog, tyT, [slices_Index_c F], []⟩) (F := F) ⟨E_ok, okC (slices_Index_ok F) (okN), mixed, goN⟩ (pl := slices_Contains_p) Tryz.func140 (by kernel_rfl) (fun x => by kernel_rfl)
def pattern_fits (F : Nat)  (a0 : TPatItem) (a1 : Int) : Option Bool :=
 cond (a0.fKind == 1)
 (rq (decide (0 < (a0.fText.length : Int))) (some (((a0.fText.getD 0 0).toNat : Int) == a1)))
 (cond (a0.fKind == 4)
 (loopF (σ := Bool × Int) (R := Bool) (fun rc2 x1 =>
 cond (decide (x1.2 < (a0.fSet.length : Int)))
 (rq ((decide (0 ≤ x1.2)) && (decide (x1.2 < (a0.fSet.length : Int)))) ((cond x1.1
 (some true)
 (cond (decide ((a0.fSet.getD (Int.toNat x1.2) dTSpan).fLow ≤ a1))
 (some (decide (a1 ≤ (a0.fSet.getD (Int.toNat x1.2) dTSpan).fHigh)))
 (some false)) : Option Bool).bind fun x3 =>
 rc2 (x3, w64 (x1.2 + 1))))
 (some (!(x1.1 == a0.fNeg)))) F (false, 0))
 (some true))
def pattern_fits_s : Shp := ⟨143, [.one (.dat (.ext 2)), .one (.dat (.int .u8))], [], [], ⟨.one (.dat .bool), [], [], []⟩, none, []⟩
def pattern_fits_p : Plan := .seq [] none (.leaf) (.seq [] none (.seq [] none (.leaf) (.seq [] none (.leaf) (.cond (.leaf) (.seq [] none (.leaf) (.cond (.seq [] none (.leaf) (.seq [] none (.seq [] none (.leaf) (.loop [] ⟨[(5, .one (.dat .bool)), (22, .one (.dat (.int .i64)))], [none], [], []⟩ (.seq [] none (.leaf) (.seq [] none (.leaf) (.seq [] none (.seq [] none (.leaf) (.region [(13, ⟨[(38, .one (.dat .bool))], [none, none], [], []⟩, false)])) (.leaf)))))) (.leaf))) (.leaf)))))) (.leaf))
def pattern_fits_c (F : Nat) : Ctr E := ⟨pattern_fits_s, fun (x : TPatItem × Int) => pattern_fits F x.1 x.2⟩
theorem pattern_fits_ok (F : Nat) : (pattern_fits_c F).Ok Tryz.prog := Ctr.ok_of (X := ⟨Tryz.prog, tyT, [], []⟩) (F := F) ⟨E_ok, okN, mixed, goN⟩ (pl := pattern_fits_p) Tryz.func143 (by kernel_rfl) (fun x => by kernel_rfl)
def pattern_advance (F : Nat)  (a0 : List TPatItem) (a1 : Int) (a2 : List Bool) : Option ((List Bool) × (List Bool)) :=
 rq ((decide (0 ≤ w64 ((a0.length : Int) + 1))) && ((decide (w64 ((a0.length : Int) + 1) ≤ w64 ((a0.length : Int) + 1))) && ((decide (0 < w64 ((a0.length : Int) + 1))) && ((decide (w64 ((a0.length : Int) + 1) ≤ 9223372036854775807)) && (decide ((1 : Int) * (w64 ((a0.length : Int) + 1)) ≤ 140737488355328)))))) (loopF (σ := Int × (List Bool) × (List Bool)) (R := (List Bool) × (List Bool)) (fun rc2 x1 =>
 cond (decide (x1.1 < (a0.length : Int)))
 (rq ((decide (0 ≤ x1.1)) && (decide (x1.1 < (a0.length : Int)))) (rq ((decide (0 ≤ x1.1)) && (decide (x1.1 < (x1.2.1.length : Int)))) (cond (!(x1.2.1.getD (Int.toNat x1.1) false))
 (rc2 (w64 (x1.1 + 1), x1.2.1, x1.2.2))
 (cond (((a0.getD (Int.toNat x1.1) dTPatItem).fKind) == 3)
 (rq ((decide (0 ≤ x1.1)) && (decide (x1.1 < (x1.2.2.length : Int)))) (rc2 (w64 (x1.1 + 1), x1.2.1, x1.2.2.set (Int.toNat x1.1) true)))
 ((pattern_fits F (a0.getD (Int.toNat x1.1) dTPatItem) a1).bind fun x3 =>
 cond x3
 (rq ((decide (0 ≤ w64 (x1.1 + 1))) && (decide (w64 (x1.1 + 1) < (x1.2.2.length : Int)))) (rc2 (w64 (x1.1 + 1), x1.2.1, x1.2.2.set (Int.toNat (w64 (x1.1 + 1))) true)))
 (rc2 (w64 (x1.1 + 1), x1.2.1, x1.2.2)))))))
 ((pattern_spread F a0 x1.2.2).bind fun x4 =>
 some (x1.2.1, x4))) F (0, a2, List.replicate (Int.toNat (w64 ((a0.length : Int) + 1))) false))
def pattern_advance_s : Shp := ⟨141, [.one (.dat (.lst (.ext 2))), .one (.gso 0), .one (.dat (.int .u8))], [], [(4, 1)], ⟨.one (.gso 1), [], [none, some (4, 1)], [(0, .bool), (1, .bool)]⟩, none, [(0, .bool)]⟩
def pattern_advance_p : Plan := .seq [] none (.leaf) (.seq [] none (.leaf) (.seq [] none (.seq [] none (.leaf) (.loop [] ⟨[(16, .one (.dat (.int .i64)))], [], [none, none], [(0, .bool), (1, .bool)]⟩ (.leaf))) (.leaf)))
def pattern_advance_c (F : Nat) : Ctr E := ⟨pattern_advance_s, fun (x : (List TPatItem) × Int × (List Bool)) => pattern_advance F x.1 x.2.1 x.2.2⟩
theorem pattern_advance_ok (F : Nat) : (pattern_advance_c F).Ok Tryz.prog := Ctr.ok_of (X := ⟨Tryz.prog, tyT, [pattern_fits_c F, pattern_spread_c F], []⟩) (F := F) ⟨E_ok, okC (pattern_fits_ok F) (okC (pattern_spread_ok F) (okN)), mixed, goN⟩ (pl := pattern_advance_p) Tryz.func141 (by kernel_rfl) (fun x => by kernel_rfl)
def slices_Index_1 (F : Nat)  (a0 : List Bool) (a1 : Bool) : Option Int :=
 loopF (σ := Int) (R := Int) (fun rc2 x1 =>
 cond (decide (x1 < (a0.length : Int)))
 (rq ((decide (0 ≤ x1)) && (decide (x1 < (a0.length : Int)))) (cond (a1 == (a0.getD (Int.toNat x1) false))
 (some x1)
 (rc2 (w64 (x1 + 1)))))
 (some (-1))) F 0
def slices_Index_1_s : Shp := ⟨142, [.one (.dat (.lst .bool)), .one (.dat .bool)], [], [], ⟨.one (.dat (.int .i64)), [], [], []⟩, none, []⟩
def slices_Index_1_p : Plan := .seq [] none (.leaf) (.seq [] none (.seq [] none (.leaf) (.loop [] ⟨[(8, .one (.dat (.int .i64)))], [], [], []⟩ (.leaf))) (.leaf))
def slices_Index_1_c (F : Nat) : Ctr E := ⟨slices_Index_1_s, fun (x : (List Bool) × Bool) => slices_Index_1 F x.1 x.2⟩
theorem slices_Index_1_ok (F : Nat) : (slices_Index_1_c F).Ok Tryz.prog := Ctr.ok_of (X := ⟨Tryz.prog, tyT, [], []⟩) (F := F) ⟨E_ok, okN, mixed, goN⟩ (pl := slices_Index_1_p) Tryz.func142 (by kernel_rfl) (fun x => by kernel_rfl)
def slices_Contains_1 (F : Nat)  (a0 : List Bool) (a1 : Bool) : Option Bool :=
 (slices_Index_1 F a0 a1).bind fun x1 =>
 some (decide (0 ≤ x1))
def slices_Contains_1_s : Shp := ⟨140, [.one (.dat (.lst .bool)), .one (.dat .bool)], [], [], ⟨.one (.dat .bool), [], [], []⟩, none, []⟩
def slices_Contains_1_p : Plan := .leaf
def slices_Contains_1_c (F : Nat) : Ctr E := ⟨slices_Contains_1_s, fun (x : (List Bool) × Bool) => slices_Contains_1 F x.1 x.2⟩
theorem slices_Contains_1_ok (F : Nat) : (slices_Contains_1_c F).Ok Tryz.prog := Ctr.ok_of (X := ⟨Tryz.prog, tyT, [slices_Index_1_c F], []⟩) (F := F) ⟨E_ok, okC (slices_Index_1_ok F) (okN), mixed, goN⟩ (pl := slices_Contains_1_p) Tryz.func140 (by kernel_rfl) (fun x => by kernel_rfl)
def pattern_advance_1 (F : Nat)  (a0 : List TPatItem) (a1 : List Bool) (a2 : Int) : Option (List Bool) :=
 rq ((decide (0 ≤ w64 ((a0.length : Int) + 1))) && ((decide (w64 ((a0.length : Int) + 1) ≤ w64 ((a0.length : Int) + 1))) && ((decide (0 < w64 ((a0.length : Int) + 1))) && ((decide (w64 ((a0.length : Int) + 1) ≤ 9223372036854775807)) && (decide ((1 : Int) * (w64 ((a0.length : Int) + 1)) ≤ 140737488355328)))))) (loopF (σ := Int × (List Bool)) (R := List Bool) (fun rc2 x1 =>
 cond (decide (x1.1 < (a0.length : Int)))
 (rq ((decide (0 ≤ x1.1)) && (decide (x1.1 < (a0.length : Int)))) (rq ((decide (0 ≤ x1.1)) && (decide (x1.1 < (a1.length : Int)))) (cond (!(a1.getD (Int.toNat x1.1) false))
 (rc2 (w64 (x1.1 + 1), x1.2))
 (cond (((a0.getD (Int.toNat x1.1) dTPatItem).fKind) == 3)
 (rq ((decide (0 ≤ x1.1)) && (decide (x1.1 < (x1.2.length : Int)))) (rc2 (w64 (x1.1 + 1), x1.2.set (Int.toNat x1.1) true)))
 ((pattern_fits F (a0.getD (Int.toNat x1.1) dTPatItem) a2).bind fun x3 =>
 cond x3
 (rq ((decide (0 ≤ w64 (x1.1 + 1))) && (decide (w64 (x1.1 + 1) < (x1.2.length : Int)))) (rc2 (w64 (x1.1 + 1), x1.2.set (Int.toNat (w64 (x1.1 + 1))) true)))
 (rc2 (w64 (x1.1 + 1), x1.2)))))))
 ((pattern_spread F a0 x1.2).bind fun x4 =>
 some x4)) F (0, List.replicate (Int.toNat (w64 ((a0.length : Int) + 1))) false))
def pattern_advance_1_s : Shp := ⟨141, [.one (.dat (.lst (.ext 2))), .one (.dat (.lst .bool)), .one (.dat (.int .u8))], [], [], ⟨.one (.gso 0), [], [some (4, 1)], [(0, .bool)]⟩, none, []⟩
def pattern_advance_1_p : Plan := .seq [] none (.leaf) (.seq [] none (.leaf) (.seq [] none (.seq [] none (.leaf) (.loop [] ⟨[(16, .one (.dat (.int .i64)))], [], [none], [(0, .bool)]⟩ (.leaf))) (.leaf)))
def pattern_advance_1_c (F : Nat) : Ctr E := ⟨pattern_advance_1_s, fun (x : (List TPatItem) × (List Bool) × Int) => pattern_advance_1 F x.1 x.2.1 x.2.2⟩
theorem pattern_advance_1_ok (F : Nat) : (pattern_advance_1_c F).Ok Tryz.prog := Ctr.ok_of (X := ⟨Tryz.prog, tyT, [pattern_fits_c F, pattern_spread_c F], []⟩) (F := F) ⟨E_ok, okC (pattern_fits_ok F) (okC (pattern_spread_ok F) (okN)), mixed, goN⟩ (pl := pattern_advance_1_p) Tryz.func141 (by kernel_rfl) (fun x => by kernel_rfl)
def pattern_search (F : Nat)  (a0 : List TPatItem) (a1 : List UInt8) (a2 : Int) (a3 : Bool) : Option (Int × Bool) :=
 (pattern_valid F a0).bind fun x1 =>
 cond (!x1)
 (some (0, false))
 (rq ((decide (0 ≤ w64 ((a0.length : Int) + 1))) && ((decide (w64 ((a0.length : Int) + 1) ≤ w64 ((a0.length : Int) + 1))) && ((decide (0 < w64 ((a0.length : Int) + 1))) && ((decide (w64 ((a0.length : Int) + 1) ≤ 9223372036854775807)) && (decide ((1 : Int) * (w64 ((a0.length : Int) + 1)) ≤ 140737488355328)))))) (rq (decide (0 < ((List.replicate (Int.toNat (w64 ((a0.length : Int) + 1))) false).length : Int))) ((pattern_spread F a0 ((List.replicate (Int.toNat (w64 ((a0.length : Int) + 1))) false).set 0 true)).bind fun x2 =>
 (loopF (σ := (List Bool) × Int × Bool × Int) (R := Int × Bool) (fun rc5 x4 =>
 jj (σ := Int × Bool) (R := Int × Bool) ((rq ((decide (0 ≤ (a0.length : Int))) && (decide ((a0.length : Int) < (x4.1.length : Int)))) (cond (x4.1.getD (Int.toNat (a0.length : Int)) false)
 (some (decide (a2 ≤ x4.2.2.2)))
 (some false)) : Option Bool).bind fun x7 =>
 cond x7
 (cond (!a3)
 (some (.inr (x4.2.2.2, true)))
 (some (.inl (x4.2.2.2, true))))
 (some (.inl (x4.2.1, x4.2.2.1)))) fun x6 =>
 (cond (x4.2.2.2 == (a1.length : Int))
 (some true)
 ((slices_Contains_1 F x4.1 true).bind fun x9 =>
 some (!x9)) : Option Bool).bind fun x8 =>
 cond x8
 (some (x6.1, x6.2))
 (rq ((decide (0 ≤ x4.2.2.2)) && (decide (x4.2.2.2 < (a1.length : Int)))) ((pattern_advance_1 F a0 x4.1 ((a1.getD (Int.toNat x4.2.2.2) 0).toNat : Int)).bind fun x10 =>
 rc5 (x10, x6.1, x6.2, w64 (x4.2.2.2 + 1))))) F (x2, 0, false, 0) : Option (Int × Bool)).bind fun x3 =>
 some (x3.1, x3.2))))
def pattern_search_s : Shp := ⟨132, [.one (.dat (.lst (.ext 2))), .one (.dat .str), .one (.dat (.int .i64)), .one (.dat .bool)], [], [], ⟨.tup [.dat (.int .i64), .dat .bool], [], [], []⟩, none, []⟩
def pattern_search_p : Plan := .seq [] none (.leaf) (.seq [] none (.leaf) (.seq [] none (.leaf) (.seq [] none (.leaf) (.seq [] none (.leaf) (.seq [] none (.leaf) (.seq [] none (.leaf) (.seq [] (some (⟨[(11, .one (.dat (.int .i64))), (12, .one (.dat .bool))], [], [none], []⟩, false)) (.seq [] none (.leaf) (.loop [] ⟨[(10, .one (.dat (.lst .bool))), (11, .one (.dat (.int .i64))), (12, .one (.dat .bool)), (13, .one (.dat (.int .i64)))], [], [none], []⟩ (.seq [] none (.seq [] (some (⟨[(11, .one (.dat (.int .i64))), (12, .one (.dat .bool))], [], [none], []⟩, true)) (.seq [] none (.region [(10, ⟨[(37, .one (.dat .bool))], [], [none], []⟩, false)]) (.leaf)) (.seq [] none (.seq [] none (.region [(9, ⟨[(49, .one (.dat .bool))], [], [none], []⟩, false)]) (.leaf)) (.leaf))) (.leaf)))) (.leaf))))))))
def pattern_search_c (F : Nat) : Ctr E := ⟨pattern_search_s, fun (x : (List TPatItem) × (List UInt8) × Int × Bool) => pattern_search F x.1 x.2.1 x.2.2.1 x.2.2.2⟩
theorem pattern_search_ok (F : Nat) : (pattern_search_c F).Ok Tryz.prog := Ctr.ok_of (X := ⟨Tryz.prog, tyT, [pattern_valid_c F, pattern_spread_c F, slices_Contains_c F, pattern_advance_c F, slices_Contains_1_c F, pattern_advance_1_c F], []⟩) (F := F) ⟨E_ok, okC (pattern_valid_ok F) (okC (pattern_spread_ok F) (okC (slices_Contains_ok F) (okC (pattern_advance_ok F) (okC (slices_Contains_1_ok F) (okC (pattern_advance_1_ok F) (okN)))))), mixed, goN⟩ (pl := pattern_search_p) Tryz.func132 (by kernel_rfl) (fun x => by kernel_rfl)
def pattern_Match (F : Nat)  (a0 : List TPatItem) (a1 : List UInt8) : Option Bool :=
 (pattern_search F a0 a1 (a1.length : Int) true).bind fun x1 =>
 some x1.2
def pattern_Match_s : Shp := ⟨109, [.one (.dat (.lst (.ext 2))), .one (.dat .str)], [], [], ⟨.one (.dat .bool), [], [], []⟩, none, []⟩
def pattern_Match_p : Plan := .leaf
def pattern_Match_c (F : Nat) : Ctr E := ⟨pattern_Match_s, fun (x : (List TPatItem) × (List UInt8)) => pattern_Match F x.1 x.2⟩
theorem pattern_Match_ok (F : Nat) : (pattern_Match_c F).Ok Tryz.prog := Ctr.ok_of (X := ⟨Tryz.prog, tyT, [pattern_search_c F], []⟩) (F := F) ⟨E_ok, okC (pattern_search_ok F) (okN), mixed, goN⟩ (pl := pattern_Match_p) Tryz.func109 (by kernel_rfl) (fun x => by kernel_rfl)
def pathname_join (F : Nat)  (a0 : List UInt8) (a1 : List UInt8) : Option (List UInt8) :=
 cond (a0 == ([47] : List UInt8))
 (rq (decide (([47] : List UInt8).length + a1.length ≤ 9223372036854775807)) (some (([47] : List UInt8) ++ a1)))
 (rq (decide (a0.length + ([47] : List UInt8).length ≤ 9223372036854775807)) (rq (decide ((a0 ++ ([47] : List UInt8)).length + a1.length ≤ 9223372036854775807)) (some ((a0 ++ ([47] : List UInt8)) ++ a1))))
def pathname_join_s : Shp := ⟨83, [.one (.dat .str), .one (.dat .str)], [], [], ⟨.one (.dat .str), [], [], []⟩, none, []⟩
def pathname_join_p : Plan := .leaf
def pathname_join_c (F : Nat) : Ctr E := ⟨pathname_join_s, fun (x : (List UInt8) × (List UInt8)) => pathname_join F x.1 x.2⟩
theorem pathname_join_ok (F : Nat) : (pathname_join_c F).Ok Tryz.prog := Ctr.ok_of (X := ⟨Tryz.prog, tyT, [], []⟩) (F := F) ⟨E_ok, okN, mixed, goN⟩ (pl := pathname_join_p) Tryz.func83 (by kernel_rfl) (fun x => by kernel_rfl)
def pathname_parent (F : Nat)  (a0 : List UInt8) : Option (List UInt8) :=
 (libF F a0 47).bind fun x1 =>
 cond (decide (x1 ≤ 0))
 (some ([47] : List UInt8))
 (rq ((decide (0 ≤ x1)) && (decide (x1 ≤ (a0.length : Int)))) (some (sl a0 0 x1)))
def pathname_parent_s : Shp := ⟨82, [.one (.dat .str)], [], [], ⟨.one (.dat .str), [], [], []⟩, none, []⟩
def pathname_parent_p : Plan := .leaf
def pathname_parent_c (F : Nat) : Ctr E := ⟨pathname_parent_s, fun (x : List UInt8) => pathname_parent F x⟩
theorem pathname_parent_ok (F : Nat) : (pathname_parent_c F).Ok Tryz.prog := Ctr.ok_of (X := ⟨Tryz.prog, tyT, [stringsLastIndexByte_c F], []⟩) (F := F) ⟨E_ok, okC (stringsLastIndexByte_ok F) (okN), mixed, goN⟩ (pl := pathname_parent_p) Tryz.func82 (by kernel_rfl) (fun x => by kernel_rfl)
def pathname_search_from_m (F : Nat) (r_pathname_search_from : Int → (List UInt8) → (List TFile) → (List Tcomponent) → (List (Tplace × Bool)) → (List (List UInt8)) → (List (List UInt8)) → Option (Bool × (List TFile) × (List Tcomponent) × (List (Tplace × Bool)) × (List (List UInt8)) × (List (List UInt8)))) (r_pathname_search_follow : Int → (List UInt8) → (List TFile) → (List Tcomponent) → (List (Tplace × Bool)) → (List (List UInt8)) → (List (List UInt8)) → Option (Bool × (List TFile) × (List Tcomponent) × (List (Tplace × Bool)) × (List (List UInt8)) × (List (List UInt8)))) (r_pathname_search_branch : Int → (List UInt8) → (List TFile) → (List Tcomponent) → (List (Tplace × Bool)) → (List (List UInt8)) → (List (List UInt8)) → Option (Bool × (List TFile) × (List Tcomponent) × (List (Tplace × Bool)) × (List (List UInt8)) × (List (List UInt8)))) (a0 : Int) (a1 : List UInt8) (a2 : List TFile) (a3 : List Tcomponent) (a4 : List (Tplace × Bool)) (a5 : List (List UInt8)) (a6 : List (List UInt8)) : Option (Bool × (List TFile) × (List Tcomponent) × (List (Tplace × Bool)) × (List (List UInt8)) × (List (List UInt8))) :=
 cond (mget keq a4 (Tplace.mk a0 a1) false)
 (some (false, a2, a3, a4, a5, a6))
 ((r_pathname_search_follow a0 a1 a2 a3 a4 a5 a6).bind fun x1 =>
 cond (!x1.1)
 (some (x1.1, x1.2.1, x1.2.2.1, mset keq x1.2.2.2.1 (Tplace.mk a0 a1) true, x1.2.2.2.2.1, x1.2.2.2.2.2))
 (some (x1.1, x1.2.1, x1.2.2.1, x1.2.2.2.1, x1.2.2.2.2.1, x1.2.2.2.2.2)))
def pathname_search_from_s : Shp := ⟨33, [.one (.ptr 0 0), .one (.dat (.int .i64)), .one (.dat .str)], [.cells 56 [.dat (.lst (.ext 0)), .gsl 0 (.ext 7), .gso 1, .gso 2, .mref 1], .map (.ext 6) .bool], [(63, 3), (9, 1), (9, 1)], ⟨.one (.dat .bool), [some (.cells 56 [.dat (.lst (.ext 0)), .gsl 0 (.ext 7), .gso 1, .gso 2, .mref 1]), some (.map (.ext 6) .bool)], [none, none, some (9, 1)], [(1, .str), (2, .str)]⟩, none, [(1, .str), (2, .str)]⟩
def pathname_search_from_p : Plan := .seq [] none (.leaf) (.seq [] none (.leaf) (.seq [] none (.seq [] none (.draw [⟨true, 5, none⟩, ⟨false, 1, none⟩]) (.leaf)) (.seq [] none (.leaf) (.seq [] none (.seq [] none (.leaf) (.cond (.draw [⟨true, 5, none⟩, ⟨false, 1, none⟩]) (.leaf))) (.leaf)))))
def pathname_search_follow_m (F : Nat) (r_pathname_search_from : Int → (List UInt8) → (List TFile) → (List Tcomponent) → (List (Tplace × Bool)) → (List (List UInt8)) → (List (List UInt8)) → Option (Bool × (List TFile) × (List Tcomponent) × (List (Tplace × Bool)) × (List (List UInt8)) × (List (List UInt8)))) (r_pathname_search_follow : Int → (List UInt8) → (List TFile) → (List Tcomponent) → (List (Tplace × Bool)) → (List (List UInt8)) → (List (List UInt8)) → Option (Bool × (List TFile) × (List Tcomponent) × (List (Tplace × Bool)) × (List (List UInt8)) × (List (List UInt8)))) (r_pathname_search_branch : Int → (List UInt8) → (List TFile) → (List Tcomponent) → (List (Tplace × Bool)) → (List (List UInt8)) → (List (List UInt8)) → Option (Bool × (List TFile) × (List Tcomponent) × (List (Tplace × Bool)) × (List (List UInt8)) × (List (List UInt8)))) (a0 : Int) (a1 : List UInt8) (a2 : List TFile) (a3 : List Tcomponent) (a4 : List (Tplace × Bool)) (a5 : List (List UInt8)) (a6 : List (List UInt8)) : Option (Bool × (List TFile) × (List Tcomponent) × (List (Tplace × Bool)) × (List (List UInt8)) × (List (List UInt8))) :=
 loopF (σ := (List UInt8) × Int × (List (List UInt8)) × (List (List UInt8))) (R := Bool × (List TFile) × (List Tcomponent) × (List (Tplace × Bool)) × (List (List UInt8)) × (List (List UInt8))) (fun rc2 x1 =>
 cond (decide (x1.2.1 < (a3.length : Int)))
 ((files_Find F a2 x1.1).bind fun x3 =>
 (cond (!x3.2)
 (some (true, x1.2.2.1, x1.2.2.2))
 (some (!x3.1.fDir, x1.2.2.1, x1.2.2.2)) : Option (Bool × (List (List UInt8)) × (List (List UInt8)))).bind fun x4 =>
 cond x4.1
 (some (false, a2, a3, a4, x4.2.1, x4.2.2))
 (rq ((decide (0 ≤ x1.2.1)) && (decide (x1.2.1 < (a3.length : Int)))) (cond (!((a3.getD (Int.toNat x1.2.1) dTcomponent).fliteral))
 ((r_pathname_search_branch x1.2.1 x1.1 a2 a3 a4 x4.2.1 x4.2.2).bind fun x5 =>
 some (x5.1, x5.2.1, x5.2.2.1, x5.2.2.2.1, x5.2.2.2.2.1, x5.2.2.2.2.2))
 ((cond (((a3.getD (Int.toNat x1.2.1) dTcomponent).ftext) == [])
 (some (true, x4.2.1, x4.2.2))
 (some (((a3.getD (Int.toNat x1.2.1) dTcomponent).ftext) == ([46] : List UInt8), x4.2.1, x4.2.2)) : Option (Bool × (List (List UInt8)) × (List (List UInt8)))).bind fun x6 =>
 cond x6.1
 (rc2 (x1.1, w64 (x1.2.1 + 1), x6.2.1, x6.2.2))
 (cond (((a3.getD (Int.toNat x1.2.1) dTcomponent).ftext) == ([46, 46] : List UInt8))
 ((pathname_parent F x1.1).bind fun x7 =>
 rc2 (x7, w64 (x1.2.1 + 1), x6.2.1, x6.2.2))
 ((pathname_join F x1.1 ((a3.getD (Int.toNat x1.2.1) dTcomponent).ftext)).bind fun x8 =>
 (files_Find F a2 x8).bind fun x9 =>
 cond (!x9.2)
 (some (false, a2, a3, a4, x6.2.1, x6.2.2))
 (rc2 (x8, w64 (x1.2.1 + 1), x6.2.1, x6.2.2))))))))
 ((joinSF F ([47] : List UInt8) x1.2.2.1).bind fun x10 =>
 rq ((decide (x1.2.2.2.length + ([x10.1] : List (List UInt8)).length ≤ 9223372036854775807)) && (decide ((x1.2.2.2.length + ([x10.1] : List (List UInt8)).length) * 16 ≤ 140737488355328))) (some (true, a2, a3, a4, x10.2, x1.2.2.2 ++ ([x10.1] : List (List UInt8)))))) F (a1, a0, a5, a6)
def pathname_search_follow_s : Shp := ⟨61, [.one (.ptr 0 0), .one (.dat (.int .i64)), .one (.dat .str)], [.cells 56 [.dat (.lst (.ext 0)), .gsl 0 (.ext 7), .gso 1, .gso 2, .mref 1], .map (.ext 6) .bool], [(63, 3), (9, 1), (9, 1)], ⟨.one (.dat .bool), [some (.cells 56 [.dat (.lst (.ext 0)), .gsl 0 (.ext 7), .gso 1, .gso 2, .mref 1]), some (.map (.ext 6) .bool)], [none, none, some (9, 1)], [(1, .str), (2, .str)]⟩, none, [(1, .str), (2, .str)]⟩
def pathname_search_follow_p : Plan := .seq [] none (.leaf) (.seq [] none (.seq [] none (.leaf) (.loop [] ⟨[(2, .one (.dat .str)), (7, .one (.dat (.int .i64)))], [none, none], [none, none, none], [(1, .str), (2, .str)]⟩ (.seq [] none (.leaf) (.seq [] none (.seq [] none (.seq [] none (.leaf) (.seq [] none (.region [(7, ⟨[(38, .one (.dat .bool))], [none, none, none], [none, none, none], [(1, .str), (2, .str)]⟩, false)]) (.leaf))) (.seq [] none (.leaf) (.seq [] none (.leaf) (.cond (.leaf) (.seq [] none (.region [(8, ⟨[(77, .one (.dat .bool))], [none, none, none, none], [none, none, none], [(1, .str), (2, .str)]⟩, false)]) (.leaf)))))) (.leaf))))) (.seq [] none (.drawP [0] [14] [⟨[(0, true), (1, true), (2, true), (3, true), (4, true), (5, true), (6, true), (7, true), (8, true), (9, false), (10, false), (11, false), (12, false), (13, false), (14, false)], none⟩]) (.leaf)))
def pathname_search_branch_m (F : Nat) (r_pathname_search_from : Int → (List UInt8) → (List TFile) → (List Tcomponent) → (List (Tplace × Bool)) → (List (List UInt8)) → (List (List UInt8)) → Option (Bool × (List TFile) × (List Tcomponent) × (List (Tplace × Bool)) × (List (List UInt8)) × (List (List UInt8)))) (r_pathname_search_follow : Int → (List UInt8) → (List TFile) → (List Tcomponent) → (List (Tplace × Bool)) → (List (List UInt8)) → (List (List UInt8)) → Option (Bool × (List TFile) × (List Tcomponent) × (List (Tplace × Bool)) × (List (List UInt8)) × (List (List UInt8)))) (r_pathname_search_branch : Int → (List UInt8) → (List TFile) → (List Tcomponent) → (List (Tplace × Bool)) → (List (List UInt8)) → (List (List UInt8)) → Option (Bool × (List TFile) × (List Tcomponent) × (List (Tplace × Bool)) × (List (List UInt8)) × (List (List UInt8)))) (a0 : Int) (a1 : List UInt8) (a2 : List TFile) (a3 : List Tcomponent) (a4 : List (Tplace × Bool)) (a5 : List (List UInt8)) (a6 : List (List UInt8)) : Option (Bool × (List TFile) × (List Tcomponent) × (List (Tplace × Bool)) × (List (List UInt8)) × (List (List UInt8))) :=
 rq ((decide (0 ≤ a0)) && (decide (a0 < (a3.length : Int)))) ((cond (decide (0 < (((a3.getD (Int.toNat a0) dTcomponent).fpattern).length : Int)))
 (rq (decide (0 < (((a3.getD (Int.toNat a0) dTcomponent).fpattern).length : Int))) (some (((((a3.getD (Int.toNat a0) dTcomponent).fpattern).getD 0 dTPatItem).fKind) == 1, a5, a6)))
 (some (false, a5, a6)) : Option (Bool × (List (List UInt8)) × (List (List UInt8)))).bind fun x1 =>
 (cond x1.1
 (rq (decide (0 < (((a3.getD (Int.toNat a0) dTcomponent).fpattern).length : Int))) (some (((((a3.getD (Int.toNat a0) dTcomponent).fpattern).getD 0 dTPatItem).fText) == ([46] : List UInt8), x1.2.1, x1.2.2)))
 (some (false, x1.2.1, x1.2.2)) : Option (Bool × (List (List UInt8)) × (List (List UInt8)))).bind fun x2 =>
 (files_List F a2 a1).bind fun x3 =>
 loopF (σ := Bool × Int × (List TFile) × (List Tcomponent) × (List (Tplace × Bool)) × (List (List UInt8)) × (List (List UInt8))) (R := Bool × (List TFile) × (List Tcomponent) × (List (Tplace × Bool)) × (List (List UInt8)) × (List (List UInt8))) (fun rc5 x4 =>
 cond (decide (x4.2.1 < (x3.1.length : Int)))
 (rq ((decide (0 ≤ x4.2.1)) && (decide (x4.2.1 < (x3.1.length : Int)))) (((strings_HasPrefix F (x3.1.getD (Int.toNat x4.2.1) []) ([46] : List UInt8)).bind fun x7 =>
 cond x7
 (some (!x2.1, x4.2.2.2.2.2.1, x4.2.2.2.2.2.2))
 (some (false, x4.2.2.2.2.2.1, x4.2.2.2.2.2.2)) : Option (Bool × (List (List UInt8)) × (List (List UInt8)))).bind fun x6 =>
 (cond x6.1
 (some (true, x6.2.1, x6.2.2))
 ((pattern_Match F ((a3.getD (Int.toNat a0) dTcomponent).fpattern) (x3.1.getD (Int.toNat x4.2.1) [])).bind fun x9 =>
 some (!x9, x6.2.1, x6.2.2)) : Option (Bool × (List (List UInt8)) × (List (List UInt8)))).bind fun x8 =>
 cond x8.1
 (rc5 (x4.1, w64 (x4.2.1 + 1), x4.2.2.1, x4.2.2.2.1, x4.2.2.2.2.1, x8.2.1, x8.2.2))
 (rq ((decide (0 ≤ a0)) && (decide (a0 < (x8.2.1.length : Int)))) ((pathname_join F a1 (x3.1.getD (Int.toNat x4.2.1) [])).bind fun x10 =>
 (r_pathname_search_from (w64 (a0 + 1)) x10 x4.2.2.1 x4.2.2.2.1 x4.2.2.2.2.1 (x8.2.1.set (Int.toNat a0) (x3.1.getD (Int.toNat x4.2.1) [])) x8.2.2).bind fun x11 =>
 cond x11.1
 (rc5 (true, w64 (x4.2.1 + 1), x11.2.1, x11.2.2.1, x11.2.2.2.1, x11.2.2.2.2.1, x11.2.2.2.2.2))
 (rc5 (x4.1, w64 (x4.2.1 + 1), x11.2.1, x11.2.2.1, x11.2.2.2.1, x11.2.2.2.2.1, x11.2.2.2.2.2))))))
 (some (x4.1, x4.2.2.1, x4.2.2.2.1, x4.2.2.2.2.1, x4.2.2.2.2.2.1, x4.2.2.2.2.2.2))) F (false, 0, a2, a3, a4, x2.2.1, x2.2.2))
def pathname_search_branch_s : Shp := ⟨81, [.one (.ptr 0 0), .one (.dat (.int .i64)), .one (.dat .str)], [.cells 56 [.dat (.lst (.ext 0)), .gsl 0 (.ext 7), .gso 1, .gso 2, .mref 1], .map (.ext 6) .bool], [(63, 3), (9, 1), (9, 1)], ⟨.one (.dat .bool), [some (.cells 56 [.dat (.lst (.ext 0)), .gsl 0 (.ext 7), .gso 1, .gso 2, .mref 1]), some (.map (.ext 6) .bool)], [none, none, some (9, 1)], [(1, .str), (2, .str)]⟩, none, [(1, .str), (2, .str)]⟩
def pathname_search_branch_p : Plan := .seq [] none (.leaf) (.seq [] none (.leaf) (.seq [] none (.region [(10, ⟨[(31, .one (.dat .bool))], [none, none], [none, none, none], [(1, .str), (2, .str)]⟩, false), (7, ⟨[(38, .one (.dat .bool))], [none, none], [none, none, none], [(1, .str), (2, .str)]⟩, false)]) (.seq [] none (.leaf) (.seq [] none (.leaf) (.seq [] none (.seq [] none (.leaf) (.loop [] ⟨[(9, .one (.dat .bool)), (50, .one (.dat (.int .i64)))], [some (.cells 56 [.dat (.lst (.ext 0)), .gsl 0 (.ext 7), .gso 1, .gso 2, .mref 1]), some (.map (.ext 6) .bool)], [none, none, some (9, 1)], [(1, .str), (2, .str)]⟩ (.seq [] none (.leaf) (.seq [] none (.leaf) (.seq [] none (.seq [] none (.leaf) (.seq [] none (.seq [] none (.region [(6, ⟨[(59, .one (.dat .bool))], [none, none], [none, none, none], [(1, .str), (2, .str)]⟩, false), (6, ⟨[(65, .one (.dat .bool))], [none, none], [none, none, none], [(1, .str), (2, .str)]⟩, false)]) (.leaf)) (.leaf))) (.leaf)))))) (.leaf))))))
def pathname_search_from_G (F : Nat) : Nat → (Int → (List UInt8) → (List TFile) → (List Tcomponent) → (List (Tplace × Bool)) → (List (List UInt8)) → (List (List UInt8)) → Option (Bool × (List TFile) × (List Tcomponent) × (List (Tplace × Bool)) × (List (List UInt8)) × (List (List UInt8)))) × (Int → (List UInt8) → (List TFile) → (List Tcomponent) → (List (Tplace × Bool)) → (List (List UInt8)) → (List (List UInt8)) → Option (Bool × (List TFile) × (List Tcomponent) × (List (Tplace × Bool)) × (List (List UInt8)) × (List (List UInt8)))) × (Int → (List UInt8) → (List TFile) → (List Tcomponent) → (List (Tplace × Bool)) → (List (List UInt8)) → (List (List UInt8)) → Option (Bool × (List TFile) × (List Tcomponent) × (List (Tplace × Bool)) × (List (List UInt8)) × (List (List UInt8))))
  | 0 => (fun _ _ _ _ _ _ _ => none, fun _ _ _ _ _ _ _ => none, fun _ _ _ _ _ _ _ => none)
  | n + 1 => (pathname_search_from_m F (pathname_search_from_G F n).1 (pathname_search_from_G F n).2.1 (pathname_search_from_G F n).2.2, pathname_search_follow_m F (pathname_search_from_G F n).1 (pathname_search_from_G F n).2.1 (pathname_search_from_G F n).2.2, pathname_search_branch_m F (pathname_search_from_G F n).1 (pathname_search_from_G F n).2.1 (pathname_search_from_G F n).2.2)
def pathname_search_from_n (F n : Nat) : Int → (List UInt8) → (List TFile) → (List Tcomponent) → (List (Tplace × Bool)) → (List (List UInt8)) → (List (List UInt8)) → Option (Bool × (List TFile) × (List Tcomponent) × (List (Tplace × Bool)) × (List (List UInt8)) × (List (List UInt8))) := (pathname_search_from_G F n).1
def pathname_search_follow_n (F n : Nat) : Int → (List UInt8) → (List TFile) → (List Tcomponent) → (List (Tplace × Bool)) → (List (List UInt8)) → (List (List UInt8)) → Option (Bool × (List TFile) × (List Tcomponent) × (List (Tplace × Bool)) × (List (List UInt8)) × (List (List UInt8))) := (pathname_search_from_G F n).2.1
def pathname_search_branch_n (F n : Nat) : Int → (List UInt8) → (List TFile) → (List Tcomponent) → (List (Tplace × Bool)) → (List (List UInt8)) → (List (List UInt8)) → Option (Bool × (List TFile) × (List Tcomponent) × (List (Tplace × Bool)) × (List (List UInt8)) × (List (List UInt8))) := (pathname_search_from_G F n).2.2
def pathname_search_from (F : Nat) (a0 : Int) (a1 : List UInt8) (a2 : List TFile) (a3 : List Tcomponent) (a4 : List (Tplace × Bool)) (a5 : List (List UInt8)) (a6 : List (List UInt8)) : Option (Bool × (List TFile) × (List Tcomponent) × (List (Tplace × Bool)) × (List (List UInt8)) × (List (List UInt8))) := pathname_search_from_n F F a0 a1 a2 a3 a4 a5 a6
def pathname_search_from_cn (F n : Nat) : Ctr E := ⟨pathname_search_from_s, fun (x : Int × (List UInt8) × (List TFile) × (List Tcomponent) × (List (Tplace × Bool)) × (List (List UInt8)) × (List (List UInt8))) => pathname_search_from_n F n x.1 x.2.1 x.2.2.1 x.2.2.2.1 x.2.2.2.2.1 x.2.2.2.2.2.1 x.2.2.2.2.2.2⟩
def pathname_search_from_c (F : Nat) : Ctr E := ⟨pathname_search_from_s, fun (x : Int × (List UInt8) × (List TFile) × (List Tcomponent) × (List (Tplace × Bool)) × (List (List UInt8)) × (List (List UInt8))) => pathname_search_from F x.1 x.2.1 x.2.2.1 x.2.2.2.1 x.2.2.2.2.1 x.2.2.2.2.2.1 x.2.2.2.2.2.2⟩
def pathname_search_follow_cn (F n : Nat) : Ctr E := ⟨pathname_search_follow_s, fun (x : Int × (List UInt8) × (List TFile) × (List Tcomponent) × (List (Tplace × Bool)) × (List (List UInt8)) × (List (List UInt8))) => pathname_search_follow_n F n x.1 x.2.1 x.2.2.1 x.2.2.2.1 x.2.2.2.2.1 x.2.2.2.2.2.1 x.2.2.2.2.2.2⟩
def pathname_search_branch_cn (F n : Nat) : Ctr E := ⟨pathname_search_branch_s, fun (x : Int × (List UInt8) × (List TFile) × (List Tcomponent) × (List (Tplace × Bool)) × (List (List UInt8)) × (List (List UInt8))) => pathname_search_branch_n F n x.1 x.2.1 x.2.2.1 x.2.2.2.1 x.2.2.2.2.1 x.2.2.2.2.2.1 x.2.2.2.2.2.2⟩
theorem pathname_search_from_st (F n : Nat) (h : (pathname_search_from_cn F n).Ok Tryz.prog ∧ (pathname_search_follow_cn F n).Ok Tryz.prog ∧ (pathname_search_branch_cn F n).Ok Tryz.prog) : (pathname_search_from_cn F (n + 1)).Ok Tryz.prog := Ctr.ok_of (X := ⟨Tryz.prog, tyT, [pathname_search_follow_cn F n], []⟩) (F := F) ⟨E_ok, okC h.2.1 (okN), mixed, goN⟩ (pl := pathname_search_from_p) Tryz.func33 (by kernel_rfl) (fun x => by kernel_rfl)
theorem pathname_search_follow_st (F n : Nat) (h : (pathname_search_from_cn F n).Ok Tryz.prog ∧ (pathname_search_follow_cn F n).Ok Tryz.prog ∧ (pathname_search_branch_cn F n).Ok Tryz.prog) : (pathname_search_follow_cn F (n + 1)).Ok Tryz.prog := Ctr.ok_of (X := ⟨Tryz.prog, tyT, [files_Find_c F, pathname_search_branch_cn F n, pathname_parent_c F, pathname_join_c F, stringsJoinS_c F], []⟩) (F := F) ⟨E_ok, okC (files_Find_ok F) (okC h.2.2 (okC (pathname_parent_ok F) (okC (pathname_join_ok F) (okC (stringsJoinS_ok F) (okN))))), mixed, goN⟩ (pl := pathname_search_follow_p) Tryz.func61 (by kernel_rfl) (fun x => by kernel_rfl)
theorem pathname_search_branch_st (F n : Nat) (h : (pathname_search_from_cn F n).Ok Tryz.prog ∧ (pathname_search_follow_cn F n).Ok Tryz.prog ∧ (pathname_search_branch_cn F n).Ok Tryz.prog) : (pathname_search_branch_cn F (n + 1)).Ok Tryz.prog := Ctr.ok_of (X := ⟨Tryz.prog, tyT, [files_List_c F, strings_HasPrefix_c F, pattern_Match_c F, pathname_join_c F, pathname_search_from_cn F n], []⟩) (F := F) ⟨E_ok, okC (files_List_ok F) (okC (strings_HasPrefix_ok F) (okC (pattern_Match_ok F) (okC (pathname_join_ok F) (okC h.1 (okN))))), mixed, goN⟩ (pl := pathname_search_branch_p) Tryz.func81 (by kernel_rfl) (fun x => by kernel_rfl)
theorem pathname_search_from_okn (F : Nat) : ∀ n, (pathname_search_from_cn F n).Ok Tryz.prog ∧ (pathname_search_follow_cn F n).Ok Tryz.prog ∧ (pathname_search_branch_cn F n).Ok Tryz.prog
  | 0 => ⟨(fun x y h => nomatch (show none = some y from h)), (fun x y h => nomatch (show none = some y from h)), (fun x y h => nomatch (show none = some y from h))⟩
  | n + 1 => by
    have h := pathname_search_from_okn F n
    exact ⟨pathname_search_from_st F n h,
      pathname_search_follow_st F n h,
      pathname_search_branch_st F n h⟩
theorem pathname_search_from_ok (F : Nat) : (pathname_search_from_c F).Ok Tryz.prog := (pathname_search_from_okn F F).1
def pathname_Expand (F : Nat)  (a0 : List TFile) (a1 : List UInt8) (a2 : List TRun) : Option ((List (List UInt8)) × Int) :=
 (files_Clean F a1 ([47] : List UInt8)).bind fun x1 =>
 cond (x1.2 != 0)
 (some ([], x1.2))
 ((pathname_pieces F a2).bind fun x2 =>
 (pathname_pieces_1 F x2 a0 ([] : List Tcomponent) true [] ([] : List (List UInt8)) ([] : List (List UInt8))).bind fun x3 =>
 (joinSF F ([47] : List UInt8) x3.2.2.2.1).bind fun x4 =>
 cond x3.2.2.1
 (some (([x4.1] : List (List UInt8)), 0))
 (((strings_HasPrefix F x4.1 ([47] : List UInt8)).bind fun x6 =>
 cond x6
 (some (([47] : List UInt8), x4.2, x3.2.2.2.2))
 (some (a1, x4.2, x3.2.2.2.2)) : Option ((List UInt8) × (List (List UInt8)) × (List (List UInt8)))).bind fun x5 =>
 (pathname_search_from F 0 x5.1 x3.1 x3.2.1 [] x5.2.1 x5.2.2).bind fun x7 =>
 cond (!x7.1)
 (some (([x4.1] : List (List UInt8)), 0))
 ((sortF F x7.2.2.2.2.2).bind fun x8 =>
 some (x8, 0))))
def pathname_Expand_s : Shp := ⟨10, [.one (.dat (.lst (.ext 0))), .one (.dat .str), .one (.dat (.lst (.ext 1)))], [], [], ⟨.tup [.dat (.lst .str), .dat (.int .i64)], [], [], []⟩, none, []⟩
def pathname_Expand_p : Plan := .rseq [] (.leaf) (.rseq [] (.leaf) (.rseq [] (.leaf) (.rseq [.cell 1 1 63 (.ext 7), .csoft 1 2 9 .str, .csoft 1 3 9 .str] (.leaf) (.rseq [] (.rseq [] (.leaf) (.rblk (.range [] 3000000 51 [10, 11, 43, 44]))) (.seq [] none (.leaf) (.seq [] none (.leaf) (.seq [] (some (⟨[(1, .one (.dat .str))], [none, none, none, none, none, none], [none, none, none], [(1, .str), (2, .str)]⟩, false)) (.leaf) (.leaf))))))))
def pathname_Expand_c (F : Nat) : Ctr E := ⟨pathname_Expand_s, fun (x : (List TFile) × (List UInt8) × (List TRun)) => pathname_Expand F x.1 x.2.1 x.2.2⟩
theorem pathname_Expand_ok (F : Nat) : (pathname_Expand_c F).Ok Tryz.prog := Ctr.ok_ofM (X := ⟨Tryz.prog, tyT, [files_Clean_c F, pathname_pieces_c F, pathname_pieces_1_c F, stringsJoinS_c F, strings_HasPrefix_c F, pathname_search_from_c F, slicesSort_c F], []⟩) (F := F) ⟨E_ok, okC (files_Clean_ok F) (okC (pathname_pieces_ok F) (okC (pathname_pieces_1_ok F) (okC (stringsJoinS_ok F) (okC (strings_HasPrefix_ok F) (okC (pathname_search_from_ok F) (okC (slicesSort_ok F) (okN))))))), mixed, goN⟩ (pl := pathname_Expand_p) Tryz.func10 (by kernel_rfl) (c := (Tryz.f10.body).getD .skip) (by kernel_rfl) (l := [(3000000, 51, ydGet 1 Tryz.f10 [true, true, true, true, false, true])]) (by kernel_rfl) (ydC ⟨rfl, entersOf Tryz.func51 (by kernel_rfl) (by kernel_rfl)⟩ (fun _ h => nomatch h)) (fun x => by kernel_rfl)
def pathname_Dir (F : Nat)  (a0 : List UInt8) : Option ((List UInt8) × (List UInt8)) :=
 (libF F a0 47).bind fun x1 =>
 rq ((decide (0 ≤ w64 (x1 + 1))) && (decide (w64 (x1 + 1) ≤ (a0.length : Int)))) (rq ((decide (0 ≤ w64 (x1 + 1))) && ((decide (w64 (x1 + 1) ≤ (a0.length : Int))) && (decide ((a0.length : Int) ≤ (a0.length : Int))))) (some (sl a0 0 (w64 (x1 + 1)), sl a0 (w64 (x1 + 1)) (a0.length : Int))))
def pathname_Dir_s : Shp := ⟨25, [.one (.dat .str)], [], [], ⟨.tup [.dat .str, .dat .str], [], [], []⟩, none, []⟩
def pathname_Dir_p : Plan := .seq [] none (.leaf) (.seq [] none (.leaf) (.seq [] none (.draw [⟨true, 10, none⟩]) (.leaf)))
def pathname_Dir_c (F : Nat) : Ctr E := ⟨pathname_Dir_s, fun (x : List UInt8) => pathname_Dir F x⟩
theorem pathname_Dir_ok (F : Nat) : (pathname_Dir_c F).Ok Tryz.prog := Ctr.ok_of (X := ⟨Tryz.prog, tyT, [stringsLastIndexByte_c F], []⟩) (F := F) ⟨E_ok, okC (stringsLastIndexByte_ok F) (okN), mixed, goN⟩ (pl := pathname_Dir_p) Tryz.func25 (by kernel_rfl) (fun x => by kernel_rfl)
def law20_awake (F : Nat)   : Option Bool :=
 (law20_lit F ([42, 47, 42, 46, 99] : List UInt8)).bind fun x1 =>
 (pathname_Expand F ([(TFile.mk ([47] : List UInt8) true []), (TFile.mk ([47, 46, 104] : List UInt8) false []), (TFile.mk ([47, 97, 46, 99] : List UInt8) false []), (TFile.mk ([47, 100] : List UInt8) true []), (TFile.mk ([47, 100, 47, 120, 46, 99] : List UInt8) false [])] : List TFile) ([47] : List UInt8) x1).bind fun x2 =>
 (law20_lit F ([46, 46, 47, 42] : List UInt8)).bind fun x3 =>
 (pathname_Expand F ([(TFile.mk ([47] : List UInt8) true []), (TFile.mk ([47, 46, 104] : List UInt8) false []), (TFile.mk ([47, 97, 46, 99] : List UInt8) false []), (TFile.mk ([47, 100] : List UInt8) true []), (TFile.mk ([47, 100, 47, 120, 46, 99] : List UInt8) false [])] : List TFile) ([47, 100] : List UInt8) x3).bind fun x4 =>
 (law20_lit F ([42] : List UInt8)).bind fun x5 =>
 (pathname_Expand F ([(TFile.mk ([47] : List UInt8) true []), (TFile.mk ([47, 46, 104] : List UInt8) false []), (TFile.mk ([47, 97, 46, 99] : List UInt8) false []), (TFile.mk ([47, 100] : List UInt8) true []), (TFile.mk ([47, 100, 47, 120, 46, 99] : List UInt8) false [])] : List TFile) ([100] : List UInt8) x5).bind fun x6 =>
 (pathname_Dir F ([97, 47, 98, 47, 99] : List UInt8)).bind fun x7 =>
 (cond (x2.2 != 0)
 (some true)
 (some (x4.2 != 0)) : Option Bool).bind fun x8 =>
 (cond x8
 (some true)
 (some (x6.2 != 10)) : Option Bool).bind fun x9 =>
 (cond x9
 (some true)
 (some ((x2.1.length : Int) != 1)) : Option Bool).bind fun x10 =>
 (cond x10
 (some true)
 (rq (decide (0 < (x2.1.length : Int))) (some (!((x2.1.getD 0 []) == ([100, 47, 120, 46, 99] : List UInt8))))) : Option Bool).bind fun x11 =>
 (cond x11
 (some true)
 (some ((x4.1.length : Int) != 2)) : Option Bool).bind fun x12 =>
 (cond x12
 (some true)
 (rq (decide (0 < (x4.1.length : Int))) (some (!((x4.1.getD 0 []) == ([46, 46, 47, 97, 46, 99] : List UInt8))))) : Option Bool).bind fun x13 =>
 (cond x13
 (some true)
 (rq (decide (1 < (x4.1.length : Int))) (some (!((x4.1.getD 1 []) == ([46, 46, 47, 100] : List UInt8))))) : Option Bool).bind fun x14 =>
 cond x14
 (some false)
 ((cond (x7.1 == ([97, 47, 98, 47] : List UInt8))
 (some (x7.2 == ([99] : List UInt8)))
 (some false) : Option Bool).bind fun x15 =>
 some x15)
def law20_awake_s : Shp := ⟨9, [], [], [], ⟨.one (.dat .bool), [], [], []⟩, none, []⟩
def law20_awake_p : Plan := .seq [] none (.leaf) (.seq [] none (.leaf) (.seq [] none (.leaf) (.seq [] none (.leaf) (.seq [] none (.leaf) (.seq [] none (.leaf) (.seq [] none (.seq [] none (.region [(6, ⟨[(43, .one (.dat .bool))], [], [none], []⟩, false), (4, ⟨[(47, .one (.dat .bool))], [], [none], []⟩, false), (5, ⟨[(52, .one (.dat .bool))], [], [none], []⟩, false), (6, ⟨[(58, .one (.dat .bool))], [], [none], []⟩, false), (5, ⟨[(63, .one (.dat .bool))], [], [none], []⟩, false), (6, ⟨[(69, .one (.dat .bool))], [], [none], []⟩, false), (6, ⟨[(75, .one (.dat .bool))], [], [none], []⟩, false)]) (.leaf)) (.seq [] none (.region [(6, ⟨[(81, .one (.dat .bool))], [], [none], []⟩, false)]) (.leaf))))))))
def law20_awake_c (F : Nat) : Ctr E := ⟨law20_awake_s, fun (x : Unit) => law20_awake F ⟩
theorem law20_awake_ok (F : Nat) : (law20_awake_c F).Ok Tryz.prog := Ctr.ok_of (X := ⟨Tryz.prog, tyT, [law20_lit_c F, pathname_Expand_c F, pathname_Dir_c F], []⟩) (F := F) ⟨E_ok, okC (law20_lit_ok F) (okC (pathname_Expand_ok F) (okC (pathname_Dir_ok F) (okN))), mixed, goN⟩ (pl := law20_awake_p) Tryz.func9 (by kernel_rfl) (fun x => by kernel_rfl)
def ref20_Text (F : Nat)  (a0 : List TRun) : Option (List UInt8) :=
 loopF (σ := (List UInt8) × Int) (R := List UInt8) (fun rc2 x1 =>
 cond (decide (x1.2 < (a0.length : Int)))
 ((rq ((decide (0 ≤ x1.2)) && (decide (x1.2 < (a0.length : Int)))) (cond (((a0.getD (Int.toNat x1.2) dTRun).fClass) == 0)
 (some true)
 (rq ((decide (0 ≤ x1.2)) && (decide (x1.2 < (a0.length : Int)))) (some (((a0.getD (Int.toNat x1.2) dTRun).fClass) == 1)))) : Option Bool).bind fun x3 =>
 (cond x3
 (some true)
 (rq ((decide (0 ≤ x1.2)) && (decide (x1.2 < (a0.length : Int)))) (some (((a0.getD (Int.toNat x1.2) dTRun).fClass) == 2))) : Option Bool).bind fun x4 =>
 cond x4
 (rq ((decide (0 ≤ x1.2)) && (decide (x1.2 < (a0.length : Int)))) (rq (decide (x1.1.length + ((a0.getD (Int.toNat x1.2) dTRun).fText).length ≤ 9223372036854775807)) (rc2 (x1.1 ++ ((a0.getD (Int.toNat x1.2) dTRun).fText), w64 (x1.2 + 1)))))
 (rc2 (x1.1, w64 (x1.2 + 1))))
 (some x1.1)) F ([], 0)
def ref20_Text_s : Shp := ⟨17, [.one (.dat (.lst (.ext 1)))], [], [], ⟨.one (.dat .str), [], [], []⟩, none, []⟩
def ref20_Text_p : Plan := .seq [] none (.leaf) (.seq [] none (.leaf) (.seq [] none (.seq [] none (.leaf) (.loop [] ⟨[(3, .one (.dat .str)), (4, .one (.dat (.int .i64)))], [], [], []⟩ (.seq [] none (.leaf) (.seq [] none (.seq [] none (.region [(14, ⟨[(24, .one (.dat .bool))], [], [], []⟩, false), (8, ⟨[(32, .one (.dat .bool))], [], [], []⟩, false)]) (.leaf)) (.leaf))))) (.leaf)))
def ref20_Text_c (F : Nat) : Ctr E := ⟨ref20_Text_s, fun (x : List TRun) => ref20_Text F x⟩
theorem ref20_Text_ok (F : Nat) : (ref20_Text_c F).Ok Tryz.prog := Ctr.ok_of (X := ⟨Tryz.prog, tyT, [], []⟩) (F := F) ⟨E_ok, okN, mixed, goN⟩ (pl := ref20_Text_p) Tryz.func17 (by kernel_rfl) (fun x => by kernel_rfl)
def ref19_Find (F : Nat)  (a0 : List TFile) (a1 : List UInt8) : Option (TFile × Bool) :=
 (ref19_find F a0 a1).bind fun x1 =>
 cond (decide (x1 < 0))
 (some ((TFile.mk [] false []), false))
 (rq ((decide (0 ≤ x1)) && (decide (x1 < (a0.length : Int)))) (some ((a0.getD (Int.toNat x1) dTFile), true)))
def ref19_Find_s : Shp := ⟨16, [.one (.dat (.lst (.ext 0))), .one (.dat .str)], [], [], ⟨.tup [.dat (.ext 0), .dat .bool], [], [], []⟩, none, []⟩
def ref19_Find_p : Plan := .leaf
def ref19_Find_c (F : Nat) : Ctr E := ⟨ref19_Find_s, fun (x : (List TFile) × (List UInt8)) => ref19_Find F x.1 x.2⟩
theorem ref19_Find_ok (F : Nat) : (ref19_Find_c F).Ok Tryz.prog := Ctr.ok_of (X := ⟨Tryz.prog, tyT, [ref19_find_c F], []⟩) (F := F) ⟨E_ok, okC (ref19_find_ok F) (okN), mixed, goN⟩ (pl := ref19_Find_p) Tryz.func16 (by kernel_rfl) (fun x => by kernel_rfl)
def ref20_directory (F : Nat)  (a0 : List TFile) (a1 : List UInt8) : Option Bool :=
 (ref19_Find F a0 a1).bind fun x1 =>
 (cond x1.2
 (some x1.1.fDir)
 (some false) : Option Bool).bind fun x2 =>
 some x2
def ref20_directory_s : Shp := ⟨38, [.one (.dat (.lst (.ext 0))), .one (.dat .str)], [], [], ⟨.one (.dat .bool), [], [], []⟩, none, []⟩
def ref20_directory_p : Plan := .seq [] none (.leaf) (.seq [] none (.leaf) (.seq [] none (.region [(5, ⟨[(17, .one (.dat .bool))], [none], [], []⟩, false)]) (.leaf)))
def ref20_directory_c (F : Nat) : Ctr E := ⟨ref20_directory_s, fun (x : (List TFile) × (List UInt8)) => ref20_directory F x.1 x.2⟩
theorem ref20_directory_ok (F : Nat) : (ref20_directory_c F).Ok Tryz.prog := Ctr.ok_of (X := ⟨Tryz.prog, tyT, [ref19_Find_c F], []⟩) (F := F) ⟨E_ok, okC (ref19_Find_ok F) (okN), mixed, goN⟩ (pl := ref20_directory_p) Tryz.func38 (by kernel_rfl) (fun x => by kernel_rfl)
def ref20_below (F : Nat)  (a0 : List UInt8) (a1 : List UInt8) : Option (List UInt8) :=
 cond (a0 == ([47] : List UInt8))
 (rq (decide (([47] : List UInt8).length + a1.length ≤ 9223372036854775807)) (some (([47] : List UInt8) ++ a1)))
 (rq (decide (a0.length + ([47] : List UInt8).length ≤ 9223372036854775807)) (rq (decide ((a0 ++ ([47] : List UInt8)).length + a1.length ≤ 9223372036854775807)) (some ((a0 ++ ([47] : List UInt8)) ++ a1))))
def ref20_below_s : Shp := ⟨68, [.one (.dat .str), .one (.dat .str)], [], [], ⟨.one (.dat .str), [], [], []⟩, none, []⟩
def ref20_below_p : Plan := .leaf
def ref20_below_c (F : Nat) : Ctr E := ⟨ref20_below_s, fun (x : (List UInt8) × (List UInt8)) => ref20_below F x.1 x.2⟩
theorem ref20_below_ok (F : Nat) : (ref20_below_c F).Ok Tryz.prog := Ctr.ok_of (X := ⟨Tryz.prog, tyT, [], []⟩) (F := F) ⟨E_ok, okN, mixed, goN⟩ (pl := ref20_below_p) Tryz.func68 (by kernel_rfl) (fun x => by kernel_rfl)
def ref19_Base (F : Nat)  (a0 : List UInt8) : Option (List UInt8) :=
 (ref19_cut F a0).bind fun x1 =>
 rq ((decide (0 ≤ w64 (x1 + 1))) && ((decide (w64 (x1 + 1) ≤ (a0.length : Int))) && (decide ((a0.length : Int) ≤ (a0.length : Int))))) (some (sl a0 (w64 (x1 + 1)) (a0.length : Int)))
def ref19_Base_s : Shp := ⟨45, [.one (.dat .str)], [], [], ⟨.one (.dat .str), [], [], []⟩, none, []⟩
def ref19_Base_p : Plan := .leaf
def ref19_Base_c (F : Nat) : Ctr E := ⟨ref19_Base_s, fun (x : List UInt8) => ref19_Base F x⟩
theorem ref19_Base_ok (F : Nat) : (ref19_Base_c F).Ok Tryz.prog := Ctr.ok_of (X := ⟨Tryz.prog, tyT, [ref19_cut_c F], []⟩) (F := F) ⟨E_ok, okC (ref19_cut_ok F) (okN), mixed, goN⟩ (pl := ref19_Base_p) Tryz.func45 (by kernel_rfl) (fun x => by kernel_rfl)
def ref19_List (F : Nat)  (a0 : List TFile) (a1 : List UInt8) : Option ((List (List UInt8)) × Int) :=
 (ref19_IsPath F a1).bind fun x1 =>
 cond (!x1)
 (some ([], 10))
 ((ref19_find F a0 a1).bind fun x2 =>
 cond (decide (x2 < 0))
 (some ([], 8))
 (rq ((decide (0 ≤ x2)) && (decide (x2 < (a0.length : Int)))) (cond (!((a0.getD (Int.toNat x2) dTFile).fDir))
 (some ([], 18))
 (loopF (σ := (List (List UInt8)) × Int) (R := (List (List UInt8)) × Int) (fun rc4 x3 =>
 cond (decide (x3.2 < (a0.length : Int)))
 ((rq ((decide (0 ≤ x3.2)) && (decide (x3.2 < (a0.length : Int)))) (cond (!(((a0.getD (Int.toNat x3.2) dTFile).fPath) == ([47] : List UInt8)))
 (rq ((decide (0 ≤ x3.2)) && (decide (x3.2 < (a0.length : Int)))) ((ref19_Parent F ((a0.getD (Int.toNat x3.2) dTFile).fPath)).bind fun x6 =>
 some (x6 == a1)))
 (some false)) : Option Bool).bind fun x5 =>
 cond x5
 (rq ((decide (0 ≤ x3.2)) && (decide (x3.2 < (a0.length : Int)))) ((ref19_Base F ((a0.getD (Int.toNat x3.2) dTFile).fPath)).bind fun x7 =>
 rq ((decide (x3.1.length + ([x7] : List (List UInt8)).length ≤ 9223372036854775807)) && (decide ((x3.1.length + ([x7] : List (List UInt8)).length) * 16 ≤ 140737488355328))) (rc4 (x3.1 ++ ([x7] : List (List UInt8)), w64 (x3.2 + 1)))))
 (rc4 (x3.1, w64 (x3.2 + 1))))
 (some (x3.1, 0))) F (([] : List (List UInt8)), 0)))))
def ref19_List_s : Shp := ⟨18, [.one (.dat (.lst (.ext 0))), .one (.dat .str)], [], [], ⟨.tup [.dat (.lst .str), .dat (.int .i64)], [], [], []⟩, none, []⟩
def ref19_List_p : Plan := .seq [] none (.leaf) (.seq [] none (.leaf) (.seq [] none (.leaf) (.seq [] none (.leaf) (.seq [] none (.leaf) (.seq [] none (.leaf) (.seq [.slot 7 9 .str] none (.seq [] none (.leaf) (.loop [] ⟨[(7, .one (.gsl 0 .str)), (8, .one (.dat (.int .i64)))], [], [some (9, 1)], []⟩ (.seq [] none (.leaf) (.seq [] none (.seq [] none (.region [(16, ⟨[(44, .one (.dat .bool))], [], [none], []⟩, false)]) (.leaf)) (.leaf))))) (.leaf)))))))
def ref19_List_c (F : Nat) : Ctr E := ⟨ref19_List_s, fun (x : (List TFile) × (List UInt8)) => ref19_List F x.1 x.2⟩
theorem ref19_List_ok (F : Nat) : (ref19_List_c F).Ok Tryz.prog := Ctr.ok_of (X := ⟨Tryz.prog, tyT, [ref19_IsPath_c F, ref19_find_c F, ref19_Parent_c F, ref19_Base_c F], []⟩) (F := F) ⟨E_ok, okC (ref19_IsPath_ok F) (okC (ref19_find_ok F) (okC (ref19_Parent_ok F) (okC (ref19_Base_ok F) (okN)))), mixed, goN⟩ (pl := ref19_List_p) Tryz.func18 (by kernel_rfl) (fun x => by kernel_rfl)
def ref04_takes (F : Nat)  (a0 : TPatItem) (a1 : Int) : Option Bool :=
 cond (a0.fKind == 1)
 (rq (decide (0 < (a0.fText.length : Int))) (some (((a0.fText.getD 0 0).toNat : Int) == a1)))
 (cond (a0.fKind == 4)
 ((ref04_in F a0.fSet a1).bind fun x1 =>
 some (!(x1 == a0.fNeg)))
 (some true))
def ref04_takes_s : Shp := ⟨119, [.one (.dat (.ext 2)), .one (.dat (.int .u8))], [], [], ⟨.one (.dat .bool), [], [], []⟩, none, []⟩
def ref04_takes_p : Plan := .seq [] none (.leaf) (.seq [] none (.seq [] none (.leaf) (.seq [] none (.leaf) (.cond (.leaf) (.seq [] none (.leaf) (.cond (.seq [] none (.drawP [0] [] [⟨[(0, true), (1, true), (2, true), (4, true), (5, true), (3, false), (6, false), (7, false)], none⟩]) (.leaf)) (.leaf)))))) (.leaf))
def ref04_takes_c (F : Nat) : Ctr E := ⟨ref04_takes_s, fun (x : TPatItem × Int) => ref04_takes F x.1 x.2⟩
theorem ref04_takes_ok (F : Nat) : (ref04_takes_c F).Ok Tryz.prog := Ctr.ok_of (X := ⟨Tryz.prog, tyT, [ref04_in_c F], []⟩) (F := F) ⟨E_ok, okC (ref04_in_ok F) (okN), mixed, goN⟩ (pl := ref04_takes_p) Tryz.func119 (by kernel_rfl) (fun x => by kernel_rfl)
def ref04_ends (F : Nat)  (a0 : List TPatItem) (a1 : List UInt8) : Option (List Bool) :=
 rq ((decide (0 ≤ w64 ((a1.length : Int) + 1))) && ((decide (w64 ((a1.length : Int) + 1) ≤ w64 ((a1.length : Int) + 1))) && ((decide (0 < w64 ((a1.length : Int) + 1))) && ((decide (w64 ((a1.length : Int) + 1) ≤ 9223372036854775807)) && (decide ((1 : Int) * (w64 ((a1.length : Int) + 1)) ≤ 140737488355328)))))) (rq (decide (0 < ((List.replicate (Int.toNat (w64 ((a1.length : Int) + 1))) false).length : Int))) (loopF (σ := (List Bool) × Int) (R := List Bool) (fun rc2 x1 =>
 cond (decide (x1.2 < (a0.length : Int)))
 (rq ((decide (0 ≤ w64 ((a1.length : Int) + 1))) && ((decide (w64 ((a1.length : Int) + 1) ≤ w64 ((a1.length : Int) + 1))) && ((decide (0 < w64 ((a1.length : Int) + 1))) && ((decide (w64 ((a1.length : Int) + 1) ≤ 9223372036854775807)) && (decide ((1 : Int) * (w64 ((a1.length : Int) + 1)) ≤ 140737488355328)))))) (loopF (σ := Int × (List Bool)) (R := List Bool) (fun rc4 x3 =>
 cond (decide (x3.1 ≤ (a1.length : Int)))
 (rq ((decide (0 ≤ x1.2)) && (decide (x1.2 < (a0.length : Int)))) (cond (((a0.getD (Int.toNat x1.2) dTPatItem).fKind) == 3)
 ((rq ((decide (0 ≤ x3.1)) && (decide (x3.1 < (x1.1.length : Int)))) (cond (x1.1.getD (Int.toNat x3.1) false)
 (some (x3.1, true, x3.2))
 (cond (decide (0 < x3.1))
 (rq ((decide (0 ≤ w64 (x3.1 - 1))) && (decide (w64 (x3.1 - 1) < (x3.2.length : Int)))) (some (x3.1, x3.2.getD (Int.toNat (w64 (x3.1 - 1))) false, x3.2)))
 (some (x3.1, false, x3.2)))) : Option (Int × Bool × (List Bool))).bind fun x5 =>
 rq ((decide (0 ≤ x5.1)) && (decide (x5.1 < (x5.2.2.length : Int)))) (rc4 (w64 (x3.1 + 1), x5.2.2.set (Int.toNat x5.1) x5.2.1)))
 (cond (decide (0 < x3.1))
 (rq ((decide (0 ≤ w64 (x3.1 - 1))) && (decide (w64 (x3.1 - 1) < (x1.1.length : Int)))) (cond (x1.1.getD (Int.toNat (w64 (x3.1 - 1))) false)
 (rq ((decide (0 ≤ x1.2)) && (decide (x1.2 < (a0.length : Int)))) (rq ((decide (0 ≤ w64 (x3.1 - 1))) && (decide (w64 (x3.1 - 1) < (a1.length : Int)))) ((ref04_takes F (a0.getD (Int.toNat x1.2) dTPatItem) ((a1.getD (Int.toNat (w64 (x3.1 - 1))) 0).toNat : Int)).bind fun x6 =>
 rq ((decide (0 ≤ x3.1)) && (decide (x3.1 < (x3.2.length : Int)))) (rc4 (w64 (x3.1 + 1), x3.2.set (Int.toNat x3.1) x6)))))
 (rq ((decide (0 ≤ x3.1)) && (decide (x3.1 < (x3.2.length : Int)))) (rc4 (w64 (x3.1 + 1), x3.2.set (Int.toNat x3.1) false)))))
 (rq ((decide (0 ≤ x3.1)) && (decide (x3.1 < (x3.2.length : Int)))) (rc4 (w64 (x3.1 + 1), x3.2.set (Int.toNat x3.1) false))))))
 (rc2 (x3.2, w64 (x1.2 + 1)))) F (0, List.replicate (Int.toNat (w64 ((a1.length : Int) + 1))) false)))
 (some x1.1)) F ((List.replicate (Int.toNat (w64 ((a1.length : Int) + 1))) false).set 0 true, 0)))
def ref04_ends_s : Shp := ⟨98, [.one (.dat (.lst (.ext 2))), .one (.dat .str)], [], [], ⟨.one (.dat (.lst .bool)), [], [], []⟩, none, []⟩
def ref04_ends_p : Plan := .seq [] none (.leaf) (.seq [] none (.leaf) (.seq [] none (.leaf) (.seq [] none (.seq [] none (.leaf) (.loop [] ⟨[(5, .one (.dat (.lst .bool))), (6, .one (.dat (.int .i64)))], [], [none], []⟩ (.seq [] none (.leaf) (.seq [] none (.seq [] none (.leaf) (.seq [] none (.seq [] none (.leaf) (.loop [] ⟨[(8, .one (.dat (.int .i64)))], [], [none, none], [(1, .bool)]⟩ (.seq [] none (.leaf) (.seq [] none (.seq [] none (.leaf) (.cond (.region [(17, ⟨[(37, .one (.gso 1)), (38, .one (.dat (.int .i64))), (53, .one (.dat .bool))], [], [none, none], [(1, .bool)]⟩, false)]) (.draw [⟨true, 20, none⟩, ⟨false, 4, none⟩]))) (.leaf))))) (.leaf))) (.leaf))))) (.leaf))))
def ref04_ends_c (F : Nat) : Ctr E := ⟨ref04_ends_s, fun (x : (List TPatItem) × (List UInt8)) => ref04_ends F x.1 x.2⟩
theorem ref04_ends_ok (F : Nat) : (ref04_ends_c F).Ok Tryz.prog := Ctr.ok_of (X := ⟨Tryz.prog, tyT, [ref04_takes_c F], []⟩) (F := F) ⟨E_ok, okC (ref04_takes_ok F) (okN), mixed, goN⟩ (pl := ref04_ends_p) Tryz.func98 (by kernel_rfl) (fun x => by kernel_rfl)
def ref04_Match (F : Nat)  (a0 : List TPatItem) (a1 : List UInt8) : Option Bool :=
 ((ref04_Valid F a0).bind fun x2 =>
 cond x2
 ((ref04_ends F a0 a1).bind fun x3 =>
 rq ((decide (0 ≤ (a1.length : Int))) && (decide ((a1.length : Int) < (x3.length : Int)))) (some (x3.getD (Int.toNat (a1.length : Int)) false)))
 (some false) : Option Bool).bind fun x1 =>
 some x1
def ref04_Match_s : Shp := ⟨69, [.one (.dat (.lst (.ext 2))), .one (.dat .str)], [], [], ⟨.one (.dat .bool), [], [], []⟩, none, []⟩
def ref04_Match_p : Plan := .seq [] none (.leaf) (.seq [] none (.region [(11, ⟨[(15, .one (.dat .bool))], [], [], []⟩, false)]) (.leaf))
def ref04_Match_c (F : Nat) : Ctr E := ⟨ref04_Match_s, fun (x : (List TPatItem) × (List UInt8)) => ref04_Match F x.1 x.2⟩
theorem ref04_Match_ok (F : Nat) : (ref04_Match_c F).Ok Tryz.prog := Ctr.ok_of (X := ⟨Tryz.prog, tyT, [ref04_Valid_c F, ref04_ends_c F], []⟩) (F := F) ⟨E_ok, okC (ref04_Valid_ok F) (okC (ref04_ends_ok F) (okN)), mixed, goN⟩ (pl := ref04_Match_p) Tryz.func69 (by kernel_rfl) (fun x => by kernel_rfl)
def ref20_step (F : Nat)  (a0 : List TFile) (a1 : Tfind) (a2 : List TRun) : Option (List Tfind) :=
 (ref04_Compile F a2).bind fun x1 =>
 (ref04_Literal F x1).bind fun x2 =>
 (cond ((a2.length : Int) == 0)
 (some true)
 (cond x2.2
 (some (x2.1 == ([46] : List UInt8)))
 (some false)) : Option Bool).bind fun x3 =>
 cond x3
 (rq (decide (a1.ftext.length + x2.1.length ≤ 9223372036854775807)) (some ([(Tfind.mk a1.fpath (a1.ftext ++ x2.1))] : List Tfind)))
 ((cond x2.2
 (some (x2.1 == ([46, 46] : List UInt8)))
 (some false) : Option Bool).bind fun x4 =>
 cond x4
 (rq (decide (a1.ftext.length + x2.1.length ≤ 9223372036854775807)) ((ref19_Parent F a1.fpath).bind fun x5 =>
 some ([(Tfind.mk x5 (a1.ftext ++ x2.1))] : List Tfind)))
 (cond x2.2
 ((ref20_below F a1.fpath x2.1).bind fun x6 =>
 (ref19_Find F a0 x6).bind fun x7 =>
 cond x7.2
 (rq (decide (a1.ftext.length + x2.1.length ≤ 9223372036854775807)) ((ref20_below F a1.fpath x2.1).bind fun x8 =>
 some ([(Tfind.mk x8 (a1.ftext ++ x2.1))] : List Tfind)))
 (some []))
 ((ref19_List F a0 a1.fpath).bind fun x9 =>
 loopF (σ := (List Tfind) × Int) (R := List Tfind) (fun rc11 x10 =>
 cond (decide (x10.2 < (x9.1.length : Int)))
 ((rq (decide (0 < (x1.length : Int))) (cond (((x1.getD 0 dTPatItem).fKind) == 1)
 (rq (decide (0 < (x1.length : Int))) (some (((x1.getD 0 dTPatItem).fText) == ([46] : List UInt8))))
 (some false)) : Option Bool).bind fun x12 =>
 (rq ((decide (0 ≤ x10.2)) && (decide (x10.2 < (x9.1.length : Int)))) ((ref04_Match F x1 (x9.1.getD (Int.toNat x10.2) [])).bind fun x14 =>
 cond x14
 (rq ((decide (0 ≤ x10.2)) && (decide (x10.2 < (x9.1.length : Int)))) (rq (decide (0 < ((x9.1.getD (Int.toNat x10.2) []).length : Int))) (cond ((((x9.1.getD (Int.toNat x10.2) []).getD 0 0).toNat : Int) != 46)
 (some true)
 (some x12))))
 (some false)) : Option Bool).bind fun x13 =>
 cond x13
 (rq ((decide (0 ≤ x10.2)) && (decide (x10.2 < (x9.1.length : Int)))) (rq ((decide (0 ≤ x10.2)) && (decide (x10.2 < (x9.1.length : Int)))) (rq (decide (a1.ftext.length + (x9.1.getD (Int.toNat x10.2) []).length ≤ 9223372036854775807)) ((ref20_below F a1.fpath (x9.1.getD (Int.toNat x10.2) [])).bind fun x15 =>
 rq ((decide (x10.1.length + ([(Tfind.mk x15 (a1.ftext ++ (x9.1.getD (Int.toNat x10.2) [])))] : List Tfind).length ≤ 9223372036854775807)) && (decide ((x10.1.length + ([(Tfind.mk x15 (a1.ftext ++ (x9.1.getD (Int.toNat x10.2) [])))] : List Tfind).length) * 32 ≤ 140737488355328))) (rc11 (x10.1 ++ ([(Tfind.mk x15 (a1.ftext ++ (x9.1.getD (Int.toNat x10.2) [])))] : List Tfind), w64 (x10.2 + 1)))))))
 (rc11 (x10.1, w64 (x10.2 + 1))))
 (some x10.1)) F (([] : List Tfind), 0))))
def ref20_step_s : Shp := ⟨39, [.one (.dat (.lst (.ext 0))), .one (.dat (.ext 9)), .one (.dat (.lst (.ext 1)))], [], [], ⟨.one (.dat (.lst (.ext 9))), [], [], []⟩, none, []⟩
def ref20_step_p : Plan := .seq [] none (.leaf) (.seq [] none (.leaf) (.seq [] none (.leaf) (.seq [] none (.seq [] none (.region [(10, ⟨[(34, .one (.dat .bool))], [none], [], []⟩, false)]) (.cond (.leaf) (.seq [] none (.region [(5, ⟨[(48, .one (.dat .bool))], [none], [], []⟩, false)]) (.cond (.seq [] none (.drawP [0] [] [⟨[(0, true), (1, true), (3, true), (4, true), (5, true), (6, true), (2, false), (7, false), (8, false), (9, false)], none⟩]) (.leaf)) (.seq [] none (.leaf) (.cond (.seq [] none (.seq [] none (.leaf) (.seq [] none (.leaf) (.cond (.seq [] none (.drawP [0] [] [⟨[(0, true), (1, true), (2, true), (4, true), (5, true), (6, true), (7, true), (3, false), (8, false), (9, false), (10, false)], none⟩]) (.leaf)) (.leaf)))) (.leaf)) (.leaf))))))) (.seq [] none (.leaf) (.seq [.slot 12 73 (.ext 9)] none (.leaf) (.seq [] none (.seq [] none (.leaf) (.loop [] ⟨[(12, .one (.gsl 0 (.ext 9))), (15, .one (.dat (.int .i64)))], [none], [some (73, 2)], []⟩ (.seq [] none (.leaf) (.seq [] none (.seq [] none (.region [(12, ⟨[(104, .one (.dat .bool))], [none], [none], []⟩, false)]) (.seq [] none (.region [(17, ⟨[(121, .one (.dat .bool))], [none], [none], []⟩, false)]) (.cond (.drawP [0] [] [⟨[(0, true), (1, true), (2, true), (3, true), (4, true), (5, true), (6, true), (8, true), (9, true), (10, true), (11, true), (12, true), (13, true), (14, true), (7, false), (15, false), (16, false), (17, false), (18, false)], none⟩]) (.leaf)))) (.leaf))))) (.leaf)))))))
def ref20_step_c (F : Nat) : Ctr E := ⟨ref20_step_s, fun (x : (List TFile) × Tfind × (List TRun)) => ref20_step F x.1 x.2.1 x.2.2⟩
theorem ref20_step_ok (F : Nat) : (ref20_step_c F).Ok Tryz.prog := Ctr.ok_of (X := ⟨Tryz.prog, tyT, [ref04_Compile_c F, ref04_Literal_c F, ref19_Parent_c F, ref20_below_c F, ref19_Find_c F, ref19_List_c F, ref04_Match_c F], []⟩) (F := F) ⟨E_ok, okC (ref04_Compile_ok F) (okC (ref04_Literal_ok F) (okC (ref19_Parent_ok F) (okC (ref20_below_ok F) (okC (ref19_Find_ok F) (okC (ref19_List_ok F) (okC (ref04_Match_ok F) (okN))))))), mixed, goN⟩ (pl := ref20_step_p) Tryz.func39 (by kernel_rfl) (fun x => by kernel_rfl)
def ref20_sorted (F : Nat)  (a0 : List (List UInt8)) : Option (List (List UInt8)) :=
 loopF (σ := (List (List UInt8)) × Int) (R := List (List UInt8)) (fun rc2 x1 =>
 cond (decide (x1.2 < (a0.length : Int)))
 (loopF (σ := Int) (R := List (List UInt8)) (fun rc4 x3 =>
 (cond (decide (x3 < (x1.1.length : Int)))
 (rq ((decide (0 ≤ x3)) && (decide (x3 < (x1.1.length : Int)))) (rq ((decide (0 ≤ x1.2)) && (decide (x1.2 < (a0.length : Int)))) (some (Op.bytesLess (x1.1.getD (Int.toNat x3) []) (a0.getD (Int.toNat x1.2) [])))))
 (some false) : Option Bool).bind fun x5 =>
 cond x5
 (rc4 (w64 (x3 + 1)))
 ((cond (x3 == (x1.1.length : Int))
 (some true)
 (rq ((decide (0 ≤ x3)) && (decide (x3 < (x1.1.length : Int)))) (rq ((decide (0 ≤ x1.2)) && (decide (x1.2 < (a0.length : Int)))) (some (!((x1.1.getD (Int.toNat x3) []) == (a0.getD (Int.toNat x1.2) [])))))) : Option Bool).bind fun x6 =>
 cond x6
 (rq ((decide (0 ≤ x1.2)) && (decide (x1.2 < (a0.length : Int)))) (rq ((decide (0 ≤ x3)) && ((decide (x3 ≤ (x1.1.length : Int))) && (decide ((x1.1.length : Int) ≤ (x1.1.length : Int))))) (rq ((decide (([a0.getD (Int.toNat x1.2) []] : List (List UInt8)).length + (sl x1.1 x3 (x1.1.length : Int)).length ≤ 9223372036854775807)) && (decide ((([a0.getD (Int.toNat x1.2) []] : List (List UInt8)).length + (sl x1.1 x3 (x1.1.length : Int)).length) * 16 ≤ 140737488355328))) (rq ((decide (0 ≤ x3)) && (decide (x3 ≤ (x1.1.length : Int)))) (rq ((decide (([] : List (List UInt8)).length + (sl x1.1 0 x3).length ≤ 9223372036854775807)) && (decide ((([] : List (List UInt8)).length + (sl x1.1 0 x3).length) * 16 ≤ 140737488355328))) (rq ((decide ((([] : List (List UInt8)) ++ (sl x1.1 0 x3)).length + (([a0.getD (Int.toNat x1.2) []] : List (List UInt8)) ++ (sl x1.1 x3 (x1.1.length : Int))).length ≤ 9223372036854775807)) && (decide (((([] : List (List UInt8)) ++ (sl x1.1 0 x3)).length + (([a0.getD (Int.toNat x1.2) []] : List (List UInt8)) ++ (sl x1.1 x3 (x1.1.length : Int))).length) * 16 ≤ 140737488355328))) (rc2 ((([] : List (List UInt8)) ++ (sl x1.1 0 x3)) ++ (([a0.getD (Int.toNat x1.2) []] : List (List UInt8)) ++ (sl x1.1 x3 (x1.1.length : Int))), w64 (x1.2 + 1)))))))))
 (rc2 (x1.1, w64 (x1.2 + 1))))) F 0)
 (some x1.1)) F (([] : List (List UInt8)), 0)
def ref20_sorted_s : Shp := ⟨40, [.one (.dat (.lst .str))], [], [], ⟨.one (.dat (.lst .str)), [], [], []⟩, none, []⟩
def ref20_sorted_p : Plan := .seq [] none (.leaf) (.seq [] none (.leaf) (.seq [.slot 3 9 .str] none (.seq [] none (.leaf) (.loop [] ⟨[(3, .one (.gsl 0 .str)), (4, .one (.dat (.int .i64)))], [], [some (9, 1)], []⟩ (.seq [] none (.leaf) (.seq [] none (.seq [] none (.leaf) (.seq [] none (.loop [] ⟨[(5, .one (.dat (.int .i64)))], [], [none], []⟩ (.seq [] none (.seq [] none (.draw [⟨true, 15, some ⟨[(27, .one (.dat .bool))], [], [none], []⟩⟩]) (.leaf)) (.leaf))) (.seq [] none (.draw [⟨true, 15, some ⟨[(44, .one (.dat .bool))], [], [none], []⟩⟩]) (.cond (.seq [] none (.drawP [] [] [⟨[(0, true), (1, true), (2, true), (3, true), (5, true), (6, true), (7, true), (4, false), (8, false), (9, false)], none⟩]) (.leaf)) (.leaf))))) (.leaf))))) (.leaf)))
def ref20_sorted_c (F : Nat) : Ctr E := ⟨ref20_sorted_s, fun (x : List (List UInt8)) => ref20_sorted F x⟩
theorem ref20_sorted_ok (F : Nat) : (ref20_sorted_c F).Ok Tryz.prog := Ctr.ok_of (X := ⟨Tryz.prog, tyT, [], []⟩) (F := F) ⟨E_ok, okN, mixed, goN⟩ (pl := ref20_sorted_p) Tryz.func40 (by kernel_rfl) (fun x => by kernel_rfl)
def ref20_Expand (F : Nat)  (a0 : List TFile) (a1 : List UInt8) (a2 : List TRun) : Option ((List (List UInt8)) × Int) :=
 (ref19_IsPath F a1).bind fun x1 =>
 cond (!x1)
 (some ([], 10))
 ((compF F a2).bind fun x2 =>
 ((ref20_Text F a2).bind fun x4 =>
 (cond (!(x4 == []))
 (rq (decide (0 < (x4.length : Int))) (some (((x4.getD 0 0).toNat : Int) == 47, ([(Tfind.mk a1 [])] : List Tfind))))
 (some (false, ([(Tfind.mk a1 [])] : List Tfind))) : Option (Bool × (List Tfind))).bind fun x5 =>
 cond x5.1
 (some ([(Tfind.mk ([47] : List UInt8) [])] : List Tfind))
 (some x5.2) : Option (List Tfind)).bind fun x3 =>
 loopF (σ := Bool × Int × (List Tfind)) (R := (List (List UInt8)) × Int) (fun rc7 x6 =>
 cond (decide (x6.2.1 < (x2.length : Int)))
 ((rq ((decide (0 ≤ x6.2.1)) && (decide (x6.2.1 < (x2.length : Int)))) ((ref04_Compile F (x2.getD (Int.toNat x6.2.1) [])).bind fun x9 =>
 (ref04_Literal F x9).bind fun x10 =>
 cond (!x10.2)
 (some (true, x6.2.2))
 (some (x6.1, x6.2.2))) : Option (Bool × (List Tfind))).bind fun x8 =>
 loopF (σ := Int × (List Tfind) × (List Tfind)) (R := (List (List UInt8)) × Int) (fun rc12 x11 =>
 cond (decide (x11.1 < (x11.2.1.length : Int)))
 ((cond (decide (0 < x6.2.1))
 (rq ((decide (0 ≤ x11.1)) && (decide (x11.1 < (x11.2.1.length : Int)))) (rq (decide (((x11.2.1.getD (Int.toNat x11.1) dTfind).ftext).length + ([47] : List UInt8).length ≤ 9223372036854775807)) (rq ((decide (0 ≤ x11.1)) && (decide (x11.1 < (x11.2.1.length : Int)))) (some (x11.2.1.set (Int.toNat x11.1) (Tfind.mk ((x11.2.1.getD (Int.toNat x11.1) dTfind).fpath) (((x11.2.1.getD (Int.toNat x11.1) dTfind).ftext) ++ ([47] : List UInt8))), x11.2.2)))))
 (some (x11.2.1, x11.2.2)) : Option ((List Tfind) × (List Tfind))).bind fun x13 =>
 rq ((decide (0 ≤ x11.1)) && (decide (x11.1 < (x13.1.length : Int)))) ((ref20_directory F a0 ((x13.1.getD (Int.toNat x11.1) dTfind).fpath)).bind fun x14 =>
 cond x14
 (rq ((decide (0 ≤ x11.1)) && (decide (x11.1 < (x13.1.length : Int)))) (rq ((decide (0 ≤ x6.2.1)) && (decide (x6.2.1 < (x2.length : Int)))) ((ref20_step F a0 (x13.1.getD (Int.toNat x11.1) dTfind) (x2.getD (Int.toNat x6.2.1) [])).bind fun x15 =>
 rq ((decide (x13.2.length + x15.length ≤ 9223372036854775807)) && (decide ((x13.2.length + x15.length) * 32 ≤ 140737488355328))) (rc12 (w64 (x11.1 + 1), x13.1, x13.2 ++ x15)))))
 (rc12 (w64 (x11.1 + 1), x13.1, x13.2))))
 (rc7 (x8.1, w64 (x6.2.1 + 1), x11.2.2))) F (0, x8.2, ([] : List Tfind)))
 ((cond (!x6.1)
 (some (true, x6.2.2))
 (some ((x6.2.2.length : Int) == 0, x6.2.2)) : Option (Bool × (List Tfind))).bind fun x16 =>
 cond x16.1
 ((ref20_Text F a2).bind fun x17 =>
 some (([x17] : List (List UInt8)), 0))
 (loopF (σ := (List (List UInt8)) × Int × (List Tfind)) (R := (List (List UInt8)) × Int) (fun rc19 x18 =>
 cond (decide (x18.2.1 < (x18.2.2.length : Int)))
 (rq ((decide (0 ≤ x18.2.1)) && (decide (x18.2.1 < (x18.2.2.length : Int)))) (rq ((decide (x18.1.length + ([(x18.2.2.getD (Int.toNat x18.2.1) dTfind).ftext] : List (List UInt8)).length ≤ 9223372036854775807)) && (decide ((x18.1.length + ([(x18.2.2.getD (Int.toNat x18.2.1) dTfind).ftext] : List (List UInt8)).length) * 16 ≤ 140737488355328))) (rc19 (x18.1 ++ ([(x18.2.2.getD (Int.toNat x18.2.1) dTfind).ftext] : List (List UInt8)), w64 (x18.2.1 + 1), x18.2.2))))
 ((ref20_sorted F x18.1).bind fun x20 =>
 some (x20, 0))) F (([] : List (List UInt8)), 0, x16.2)))) F (false, 0, x3))
def ref20_Expand_s : Shp := ⟨11, [.one (.dat (.lst (.ext 0))), .one (.dat .str), .one (.dat (.lst (.ext 1)))], [], [], ⟨.tup [.dat (.lst .str), .dat (.int .i64)], [], [], []⟩, none, []⟩
def ref20_Expand_p : Plan := .seq [] none (.leaf) (.seq [] none (.leaf) (.seq [] none (.leaf) (.seq [] none (.leaf) (.seq [] (some (⟨[(9, .one (.gso 0))], [], [some (73, 2)], [(0, (.ext 9))]⟩, false)) (.seq [] none (.leaf) (.seq [] none (.region [(7, ⟨[(35, .one (.dat .bool))], [], [none], [(0, (.ext 9))]⟩, false)]) (.leaf))) (.seq [] none (.leaf) (.seq [] none (.seq [] none (.leaf) (.loop [] ⟨[(9, .one (.gso 0)), (11, .one (.dat .bool)), (12, .one (.dat (.int .i64)))], [], [some (73, 2)], [(0, (.ext 9))]⟩ (.seq [] none (.leaf) (.seq [] none (.seq [] (some (⟨[(11, .one (.dat .bool))], [], [none], [(0, (.ext 9))]⟩, false)) (.leaf) (.seq [] none (.leaf) (.seq [] none (.seq [] none (.leaf) (.loop [.soft 15 73 (.ext 9)] ⟨[(15, .one (.gso 1)), (16, .one (.dat (.int .i64)))], [], [none, some (73, 2)], [(0, (.ext 9)), (1, (.ext 9))]⟩ (.seq [] none (.leaf) (.seq [] none (.seq [] (some (⟨[], [], [none, none], [(0, (.ext 9)), (1, (.ext 9))]⟩, false)) (.leaf) (.seq [] none (.leaf) (.cond (.draw [⟨true, 10, none⟩, ⟨false, 3, none⟩]) (.leaf)))) (.leaf))))) (.leaf)))) (.leaf))))) (.seq [] none (.seq [] none (.region [(7, ⟨[(99, .one (.dat .bool))], [], [none], [(0, (.ext 9))]⟩, false)]) (.leaf)) (.seq [] none (.leaf) (.seq [.slot 17 9 .str] none (.seq [] none (.leaf) (.loop [] ⟨[(17, .one (.gsl 1 .str)), (18, .one (.dat (.int .i64)))], [], [none, some (9, 1)], [(0, (.ext 9))]⟩ (.leaf))) (.leaf))))))))))
def ref20_Expand_c (F : Nat) : Ctr E := ⟨ref20_Expand_s, fun (x : (List TFile) × (List UInt8) × (List TRun)) => ref20_Expand F x.1 x.2.1 x.2.2⟩
theorem ref20_Expand_ok (F : Nat) : (ref20_Expand_c F).Ok Tryz.prog := Ctr.ok_of (X := ⟨Tryz.prog, tyS [26, 37] tyT, [ref19_IsPath_c F, components_c F, ref20_Text_c F, ref04_Compile_c F, ref04_Literal_c F, ref20_directory_c F, ref20_step_c F, ref20_sorted_c F], []⟩) (F := F) ⟨E_ok, okC (ref19_IsPath_ok F) (okC (components_ok F) (okC (ref20_Text_ok F) (okC (ref04_Compile_ok F) (okC (ref04_Literal_ok F) (okC (ref20_directory_ok F) (okC (ref20_step_ok F) (okC (ref20_sorted_ok F) (okN)))))))), mixed, goN⟩ (pl := ref20_Expand_p) Tryz.func11 (by kernel_rfl) (fun x => by kernel_rfl)
def ref03_SameTexts (F : Nat)  (a0 : List (List UInt8)) (a1 : List (List UInt8)) : Option Bool :=
 cond ((a0.length : Int) != (a1.length : Int))
 (some false)
 (loopF (σ := Int) (R := Bool) (fun rc2 x1 =>
 cond (decide (x1 < (a0.length : Int)))
 (rq ((decide (0 ≤ x1)) && (decide (x1 < (a0.length : Int)))) (rq ((decide (0 ≤ x1)) && (decide (x1 < (a1.length : Int)))) (cond (!((a0.getD (Int.toNat x1) []) == (a1.getD (Int.toNat x1) [])))
 (some false)
 (rc2 (w64 (x1 + 1))))))
 (some true)) F 0)
def ref03_SameTexts_s : Shp := ⟨12, [.one (.dat (.lst .str)), .one (.dat (.lst .str))], [], [], ⟨.one (.dat .bool), [], [], []⟩, none, []⟩
def ref03_SameTexts_p : Plan := .seq [] none (.leaf) (.seq [] none (.leaf) (.seq [] none (.seq [] none (.leaf) (.loop [] ⟨[(5, .one (.dat (.int .i64)))], [], [], []⟩ (.seq [] none (.leaf) (.seq [] none (.seq [] none (.draw [⟨true, 9, none⟩]) (.leaf)) (.leaf))))) (.leaf)))
def ref03_SameTexts_c (F : Nat) : Ctr E := ⟨ref03_SameTexts_s, fun (x : (List (List UInt8)) × (List (List UInt8))) => ref03_SameTexts F x.1 x.2⟩
theorem ref03_SameTexts_ok (F : Nat) : (ref03_SameTexts_c F).Ok Tryz.prog := Ctr.ok_of (X := ⟨Tryz.prog, tyT, [], []⟩) (F := F) ⟨E_ok, okN, mixed, goN⟩ (pl := ref03_SameTexts_p) Tryz.func12 (by kernel_rfl) (fun x => by kernel_rfl)
def law20_PathnameExpands (F : Nat)  (a0 : List TFile) (a1 : List UInt8) (a2 : List TRun) : Option Bool :=
 (law20_small F a0 a1 a2).bind fun x1 =>
 cond (!x1)
 ((law20_awake 60).bind fun x2 =>
 some x2)
 ((pathname_Expand F a0 a1 a2).bind fun x3 =>
 (ref20_Expand F a0 a1 a2).bind fun x4 =>
 ((ref03_SameTexts F x3.1 x4.1).bind fun x6 =>
 cond x6
 (some (x3.2 == x4.2))
 (some false) : Option Bool).bind fun x5 =>
 (cond x5
 ((law20_awake 60).bind fun x8 =>
 some x8)
 (some false) : Option Bool).bind fun x7 =>
 some x7)
def law20_PathnameExpands_s : Shp := ⟨3, [.one (.dat (.lst (.ext 0))), .one (.dat .str), .one (.dat (.lst (.ext 1)))], [], [], ⟨.one (.dat .bool), [], [], []⟩, none, []⟩
def law20_PathnameExpands_p : Plan := .seq [] none (.leaf) (.seq [] none (.leaf) (.seq [] none (.leaf) (.seq [] none (.leaf) (.seq [] none (.region [(8, ⟨[(38, .one (.dat .bool))], [], [], []⟩, false), (3, ⟨[(41, .one (.dat .bool))], [], [], []⟩, false)]) (.leaf)))))
def law20_PathnameExpands_c (F : Nat) : Ctr E := ⟨law20_PathnameExpands_s, fun (x : (List TFile) × (List UInt8) × (List TRun)) => law20_PathnameExpands F x.1 x.2.1 x.2.2⟩
theorem law20_PathnameExpands_ok (F : Nat) : (law20_PathnameExpands_c F).Ok Tryz.prog := Ctr.ok_of (X := ⟨Tryz.prog, tyT, [law20_small_c F, law20_awake_c 60, pathname_Expand_c F, ref20_Expand_c F, ref03_SameTexts_c F], []⟩) (F := F) ⟨E_ok, okC (law20_small_ok F) (okC (law20_awake_ok 60) (okC (pathname_Expand_ok F) (okC (ref20_Expand_ok F) (okC (ref03_SameTexts_ok F) (okN))))), mixed, goN⟩ (pl := law20_PathnameExpands_p) Tryz.func3 (by kernel_rfl) (fun x => by kernel_rfl)
end Go.Proofs.YtmklhkmeampamaaGreatDoor
