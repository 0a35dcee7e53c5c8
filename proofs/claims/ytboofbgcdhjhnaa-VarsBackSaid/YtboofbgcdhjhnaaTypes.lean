/- Facts on the types of this translation, by program (tgen.py). -/
import Derived.Test.YtboofbgcdhjhnaaAl16
import Derived.Test.YtboofbgcdhjhnaaChecked
import Derived.KernelRfl
namespace Go.Proofs.Ytboofbgcdhjhnaa
open Go.AL
theorem T2 : tinfo Try.prog 2 = some ⟨.int .i64, 1, 8, .int .i64 0⟩ := by kernel_rfl
theorem T3 : tinfo Try.prog 3 = some ⟨.int .i64, 1, 8, .int .i64 0⟩ := by kernel_rfl
theorem T4 : tinfo Try.prog 4 = some ⟨.bool, 1, 1, .bool false⟩ := by kernel_rfl
theorem T5 : tinfo Try.prog 5 = some ⟨.int .u8, 1, 1, .int .u8 0⟩ := by kernel_rfl
theorem T6 : tinfo Try.prog 6 = some ⟨.int .u8, 1, 1, .int .u8 0⟩ := by kernel_rfl
theorem T7 : tinfo Try.prog 7 = some ⟨.struct #[{ name := "x", type := 2, offset := 0, embedded := false, tag := "", pkgPath := "runtime", byteOffset := 0 }, { name := "y", type := 3, offset := 1, embedded := false, tag := "", pkgPath := "runtime", byteOffset := 8 }, { name := "signed", type := 4, offset := 2, embedded := false, tag := "", pkgPath := "runtime", byteOffset := 16 }, { name := "code", type := 6, offset := 3, embedded := false, tag := "", pkgPath := "runtime", byteOffset := 17 }], 4, 24, .agg #[.int .i64 0, .int .i64 0, .bool false, .int .u8 0]⟩ := by kernel_rfl
theorem T8 : tinfo Try.prog 8 = some ⟨.struct #[{ name := "x", type := 2, offset := 0, embedded := false, tag := "", pkgPath := "runtime", byteOffset := 0 }, { name := "y", type := 3, offset := 1, embedded := false, tag := "", pkgPath := "runtime", byteOffset := 8 }, { name := "signed", type := 4, offset := 2, embedded := false, tag := "", pkgPath := "runtime", byteOffset := 16 }, { name := "code", type := 6, offset := 3, embedded := false, tag := "", pkgPath := "runtime", byteOffset := 17 }], 4, 24, .agg #[.int .i64 0, .int .i64 0, .bool false, .int .u8 0]⟩ := by kernel_rfl
theorem T9 : tinfo Try.prog 9 = some ⟨.string, 1, 16, .string ⟨#[]⟩⟩ := by kernel_rfl
theorem T10 : tinfo Try.prog 10 = some ⟨.string, 1, 16, .string ⟨#[]⟩⟩ := by kernel_rfl
theorem T11 : tinfo Try.prog 11 = some ⟨.string, 1, 16, .string ⟨#[]⟩⟩ := by kernel_rfl
theorem T12 : tinfo Try.prog 12 = some ⟨.int .u64, 1, 8, .int .u64 0⟩ := by kernel_rfl
theorem T13 : tinfo Try.prog 13 = some ⟨.struct #[{ name := "msg", type := 9, offset := 0, embedded := false, tag := "", pkgPath := "runtime", byteOffset := 0 }, { name := "addr", type := 12, offset := 1, embedded := false, tag := "", pkgPath := "runtime", byteOffset := 16 }], 2, 24, .agg #[.string ⟨#[]⟩, .int .u64 0]⟩ := by kernel_rfl
theorem T14 : tinfo Try.prog 14 = some ⟨.struct #[{ name := "msg", type := 9, offset := 0, embedded := false, tag := "", pkgPath := "runtime", byteOffset := 0 }, { name := "addr", type := 12, offset := 1, embedded := false, tag := "", pkgPath := "runtime", byteOffset := 16 }], 2, 24, .agg #[.string ⟨#[]⟩, .int .u64 0]⟩ := by kernel_rfl
theorem T15 : tinfo Try.prog 15 = some ⟨.pointer 104, 1, 8, .pointer none⟩ := by kernel_rfl
theorem T16 : tinfo Try.prog 16 = some ⟨.pointer 107, 1, 8, .pointer none⟩ := by kernel_rfl
theorem T17 : tinfo Try.prog 17 = some ⟨.pointer 116, 1, 8, .pointer none⟩ := by kernel_rfl
theorem T18 : tinfo Try.prog 18 = some ⟨.struct #[{ name := "typ", type := 17, offset := 0, embedded := false, tag := "", pkgPath := "internal/runtime/maps", byteOffset := 0 }], 1, 8, .agg #[.pointer none]⟩ := by kernel_rfl
theorem T19 : tinfo Try.prog 19 = some ⟨.struct #[{ name := "typ", type := 17, offset := 0, embedded := false, tag := "", pkgPath := "internal/runtime/maps", byteOffset := 0 }], 1, 8, .agg #[.pointer none]⟩ := by kernel_rfl
theorem T21 : tinfo Try.prog 21 = some ⟨.int .i32, 1, 4, .int .i32 0⟩ := by kernel_rfl
theorem T22 : tinfo Try.prog 22 = some ⟨.slice 26, 1, 24, .slice none 0 0⟩ := by kernel_rfl
theorem T25 : tinfo Try.prog 25 = some ⟨.struct #[{ name := "Name", type := 9, offset := 0, embedded := false, tag := "", pkgPath := "", byteOffset := 0 }, { name := "Value", type := 9, offset := 1, embedded := false, tag := "", pkgPath := "", byteOffset := 16 }, { name := "Set", type := 4, offset := 2, embedded := false, tag := "", pkgPath := "", byteOffset := 32 }, { name := "Export", type := 4, offset := 3, embedded := false, tag := "", pkgPath := "", byteOffset := 33 }, { name := "Readonly", type := 4, offset := 4, embedded := false, tag := "", pkgPath := "", byteOffset := 34 }], 5, 40, .agg #[.string ⟨#[]⟩, .string ⟨#[]⟩, .bool false, .bool false, .bool false]⟩ := by kernel_rfl
theorem T26 : tinfo Try.prog 26 = some ⟨.struct #[{ name := "Name", type := 9, offset := 0, embedded := false, tag := "", pkgPath := "", byteOffset := 0 }, { name := "Value", type := 9, offset := 1, embedded := false, tag := "", pkgPath := "", byteOffset := 16 }, { name := "Set", type := 4, offset := 2, embedded := false, tag := "", pkgPath := "", byteOffset := 32 }, { name := "Export", type := 4, offset := 3, embedded := false, tag := "", pkgPath := "", byteOffset := 33 }, { name := "Readonly", type := 4, offset := 4, embedded := false, tag := "", pkgPath := "", byteOffset := 34 }], 5, 40, .agg #[.string ⟨#[]⟩, .string ⟨#[]⟩, .bool false, .bool false, .bool false]⟩ := by kernel_rfl
theorem T29 : tinfo Try.prog 29 = some ⟨.int .i64, 1, 8, .int .i64 0⟩ := by kernel_rfl
theorem T40 : tinfo Try.prog 40 = some ⟨.array 2 4, 2, 2, .agg #[.bool false, .bool false]⟩ := by kernel_rfl
theorem T44 : tinfo Try.prog 44 = some ⟨.slice 9, 1, 24, .slice none 0 0⟩ := by kernel_rfl
theorem T51 : tinfo Try.prog 51 = some ⟨.array 2 9, 2, 32, .agg #[.string ⟨#[]⟩, .string ⟨#[]⟩]⟩ := by kernel_rfl
theorem T61 : tinfo Try.prog 61 = some ⟨.map 9 9, 1, 8, .map none⟩ := by kernel_rfl
theorem T76 : tinfo Try.prog 76 = some ⟨.int .u64, 1, 8, .int .u64 0⟩ := by kernel_rfl
theorem T80 : tinfo Try.prog 80 = some ⟨.int .i64, 1, 8, .int .i64 0⟩ := by kernel_rfl
theorem T88 : tinfo Try.prog 88 = some ⟨.int .u32, 1, 4, .int .u32 0⟩ := by kernel_rfl
theorem T90 : tinfo Try.prog 90 = some ⟨.int .u64, 1, 8, .int .u64 0⟩ := by kernel_rfl
theorem T93 : tinfo Try.prog 93 = some ⟨.int .u64, 1, 8, .int .u64 0⟩ := by kernel_rfl
theorem T97 : tinfo Try.prog 97 = some ⟨.pointer 3, 1, 8, .pointer none⟩ := by kernel_rfl
theorem T99 : tinfo Try.prog 99 = some ⟨.pointer 93, 1, 8, .pointer none⟩ := by kernel_rfl
theorem T103 : tinfo Try.prog 103 = some ⟨.struct #[{ name := "_interface", type := 17, offset := 0, embedded := false, tag := "", pkgPath := "runtime", byteOffset := 0 }, { name := "concrete", type := 17, offset := 1, embedded := false, tag := "", pkgPath := "runtime", byteOffset := 8 }, { name := "asserted", type := 17, offset := 2, embedded := false, tag := "", pkgPath := "runtime", byteOffset := 16 }, { name := "missingMethod", type := 9, offset := 3, embedded := false, tag := "", pkgPath := "runtime", byteOffset := 24 }], 4, 40, .agg #[.pointer none, .pointer none, .pointer none, .string ⟨#[]⟩]⟩ := by kernel_rfl
theorem T104 : tinfo Try.prog 104 = some ⟨.struct #[{ name := "_interface", type := 17, offset := 0, embedded := false, tag := "", pkgPath := "runtime", byteOffset := 0 }, { name := "concrete", type := 17, offset := 1, embedded := false, tag := "", pkgPath := "runtime", byteOffset := 8 }, { name := "asserted", type := 17, offset := 2, embedded := false, tag := "", pkgPath := "runtime", byteOffset := 16 }, { name := "missingMethod", type := 9, offset := 3, embedded := false, tag := "", pkgPath := "runtime", byteOffset := 24 }], 4, 40, .agg #[.pointer none, .pointer none, .pointer none, .string ⟨#[]⟩]⟩ := by kernel_rfl
theorem T105 : tinfo Try.prog 105 = some ⟨.array 0 16, 0, 0, .agg #[]⟩ := by kernel_rfl
theorem T106 : tinfo Try.prog 106 = some ⟨.struct #[{ name := "_", type := 105, offset := 0, embedded := false, tag := "", pkgPath := "runtime", byteOffset := 0 }], 0, 0, .agg #[]⟩ := by kernel_rfl
theorem T107 : tinfo Try.prog 107 = some ⟨.struct #[{ name := "_", type := 105, offset := 0, embedded := false, tag := "", pkgPath := "runtime", byteOffset := 0 }], 0, 0, .agg #[]⟩ := by kernel_rfl
theorem T109 : tinfo Try.prog 109 = some ⟨.int .u8, 1, 1, .int .u8 0⟩ := by kernel_rfl
theorem T110 : tinfo Try.prog 110 = some ⟨.int .u8, 1, 1, .int .u8 0⟩ := by kernel_rfl
theorem T112 : tinfo Try.prog 112 = some ⟨.pointer 5, 1, 8, .pointer none⟩ := by kernel_rfl
theorem T113 : tinfo Try.prog 113 = some ⟨.int .i32, 1, 4, .int .i32 0⟩ := by kernel_rfl
theorem T114 : tinfo Try.prog 114 = some ⟨.int .i32, 1, 4, .int .i32 0⟩ := by kernel_rfl
theorem T115 : tinfo Try.prog 115 = some ⟨.struct #[{ name := "Size_", type := 12, offset := 0, embedded := false, tag := "", pkgPath := "", byteOffset := 0 }, { name := "PtrBytes", type := 12, offset := 1, embedded := false, tag := "", pkgPath := "", byteOffset := 8 }, { name := "Hash", type := 88, offset := 2, embedded := false, tag := "", pkgPath := "", byteOffset := 16 }, { name := "TFlag", type := 109, offset := 3, embedded := false, tag := "", pkgPath := "", byteOffset := 20 }, { name := "Align_", type := 5, offset := 4, embedded := false, tag := "", pkgPath := "", byteOffset := 21 }, { name := "FieldAlign_", type := 5, offset := 5, embedded := false, tag := "", pkgPath := "", byteOffset := 22 }, { name := "Kind_", type := 110, offset := 6, embedded := false, tag := "", pkgPath := "", byteOffset := 23 }, { name := "Equal", type := 111, offset := 7, embedded := false, tag := "", pkgPath := "", byteOffset := 24 }, { name := "GCData", type := 112, offset := 8, embedded := false, tag := "", pkgPath := "", byteOffset := 32 }, { name := "Str", type := 113, offset := 9, embedded := false, tag := "", pkgPath := "", byteOffset := 40 }, { name := "PtrToThis", type := 114, offset := 10, embedded := false, tag := "", pkgPath := "", byteOffset := 44 }], 11, 48, .agg #[.int .u64 0, .int .u64 0, .int .u32 0, .int .u8 0, .int .u8 0, .int .u8 0, .int .u8 0, .nilFunc, .pointer none, .int .i32 0, .int .i32 0]⟩ := by kernel_rfl
theorem T116 : tinfo Try.prog 116 = some ⟨.struct #[{ name := "Size_", type := 12, offset := 0, embedded := false, tag := "", pkgPath := "", byteOffset := 0 }, { name := "PtrBytes", type := 12, offset := 1, embedded := false, tag := "", pkgPath := "", byteOffset := 8 }, { name := "Hash", type := 88, offset := 2, embedded := false, tag := "", pkgPath := "", byteOffset := 16 }, { name := "TFlag", type := 109, offset := 3, embedded := false, tag := "", pkgPath := "", byteOffset := 20 }, { name := "Align_", type := 5, offset := 4, embedded := false, tag := "", pkgPath := "", byteOffset := 21 }, { name := "FieldAlign_", type := 5, offset := 5, embedded := false, tag := "", pkgPath := "", byteOffset := 22 }, { name := "Kind_", type := 110, offset := 6, embedded := false, tag := "", pkgPath := "", byteOffset := 23 }, { name := "Equal", type := 111, offset := 7, embedded := false, tag := "", pkgPath := "", byteOffset := 24 }, { name := "GCData", type := 112, offset := 8, embedded := false, tag := "", pkgPath := "", byteOffset := 32 }, { name := "Str", type := 113, offset := 9, embedded := false, tag := "", pkgPath := "", byteOffset := 40 }, { name := "PtrToThis", type := 114, offset := 10, embedded := false, tag := "", pkgPath := "", byteOffset := 44 }], 11, 48, .agg #[.int .u64 0, .int .u64 0, .int .u32 0, .int .u8 0, .int .u8 0, .int .u8 0, .int .u8 0, .nilFunc, .pointer none, .int .i32 0, .int .i32 0]⟩ := by kernel_rfl
theorem fk3 : FnOk Try.prog 3 := ⟨_, _, Try.func3, rfl, by kernel_rfl⟩
theorem fk4 : FnOk Try.prog 4 := ⟨_, _, Try.func4, rfl, by kernel_rfl⟩
theorem fk5 : FnOk Try.prog 5 := ⟨_, _, Try.func5, rfl, by kernel_rfl⟩
theorem fk6 : FnOk Try.prog 6 := ⟨_, _, Try.func6, rfl, by kernel_rfl⟩
theorem fk7 : FnOk Try.prog 7 := ⟨_, _, Try.func7, rfl, by kernel_rfl⟩
theorem fk8 : FnOk Try.prog 8 := ⟨_, _, Try.func8, rfl, by kernel_rfl⟩
theorem fk9 : FnOk Try.prog 9 := ⟨_, _, Try.func9, rfl, by kernel_rfl⟩
theorem fk10 : FnOk Try.prog 10 := ⟨_, _, Try.func10, rfl, by kernel_rfl⟩
theorem fk11 : FnOk Try.prog 11 := ⟨_, _, Try.func11, rfl, by kernel_rfl⟩
theorem fk12 : FnOk Try.prog 12 := ⟨_, _, Try.func12, rfl, by kernel_rfl⟩
theorem fk13 : FnOk Try.prog 13 := ⟨_, _, Try.func13, rfl, by kernel_rfl⟩
theorem fk14 : FnOk Try.prog 14 := ⟨_, _, Try.func14, rfl, by kernel_rfl⟩
theorem fk15 : FnOk Try.prog 15 := ⟨_, _, Try.func15, rfl, by kernel_rfl⟩
theorem fk16 : FnOk Try.prog 16 := ⟨_, _, Try.func16, rfl, by kernel_rfl⟩
theorem fk17 : FnOk Try.prog 17 := ⟨_, _, Try.func17, rfl, by kernel_rfl⟩
theorem fk18 : FnOk Try.prog 18 := ⟨_, _, Try.func18, rfl, by kernel_rfl⟩
theorem fk19 : FnOk Try.prog 19 := ⟨_, _, Try.func19, rfl, by kernel_rfl⟩
theorem fk20 : FnOk Try.prog 20 := ⟨_, _, Try.func20, rfl, by kernel_rfl⟩
theorem fk21 : FnOk Try.prog 21 := ⟨_, _, Try.func21, rfl, by kernel_rfl⟩
theorem fk22 : FnOk Try.prog 22 := ⟨_, _, Try.func22, rfl, by kernel_rfl⟩
theorem fk23 : FnOk Try.prog 23 := ⟨_, _, Try.func23, rfl, by kernel_rfl⟩
theorem fk24 : FnOk Try.prog 24 := ⟨_, _, Try.func24, rfl, by kernel_rfl⟩
theorem fk25 : FnOk Try.prog 25 := ⟨_, _, Try.func25, rfl, by kernel_rfl⟩
theorem fk26 : FnOk Try.prog 26 := ⟨_, _, Try.func26, rfl, by kernel_rfl⟩
theorem fk27 : FnOk Try.prog 27 := ⟨_, _, Try.func27, rfl, by kernel_rfl⟩
theorem fk28 : FnOk Try.prog 28 := ⟨_, _, Try.func28, rfl, by kernel_rfl⟩
theorem fk29 : FnOk Try.prog 29 := ⟨_, _, Try.func29, rfl, by kernel_rfl⟩
theorem fk30 : FnOk Try.prog 30 := ⟨_, _, Try.func30, rfl, by kernel_rfl⟩
theorem fk31 : FnOk Try.prog 31 := ⟨_, _, Try.func31, rfl, by kernel_rfl⟩
theorem fk32 : FnOk Try.prog 32 := ⟨_, _, Try.func32, rfl, by kernel_rfl⟩
theorem fk33 : FnOk Try.prog 33 := ⟨_, _, Try.func33, rfl, by kernel_rfl⟩
theorem fk34 : FnOk Try.prog 34 := ⟨_, _, Try.func34, rfl, by kernel_rfl⟩
theorem fk35 : FnOk Try.prog 35 := ⟨_, _, Try.func35, rfl, by kernel_rfl⟩
theorem fk36 : FnOk Try.prog 36 := ⟨_, _, Try.func36, rfl, by kernel_rfl⟩
theorem fk37 : FnOk Try.prog 37 := ⟨_, _, Try.func37, rfl, by kernel_rfl⟩
theorem fk38 : FnOk Try.prog 38 := ⟨_, _, Try.func38, rfl, by kernel_rfl⟩
theorem fk39 : FnOk Try.prog 39 := ⟨_, _, Try.func39, rfl, by kernel_rfl⟩
theorem fk40 : FnOk Try.prog 40 := ⟨_, _, Try.func40, rfl, by kernel_rfl⟩
theorem fk41 : FnOk Try.prog 41 := ⟨_, _, Try.func41, rfl, by kernel_rfl⟩
theorem fk42 : FnOk Try.prog 42 := ⟨_, _, Try.func42, rfl, by kernel_rfl⟩
theorem fk43 : FnOk Try.prog 43 := ⟨_, _, Try.func43, rfl, by kernel_rfl⟩
theorem fk44 : FnOk Try.prog 44 := ⟨_, _, Try.func44, rfl, by kernel_rfl⟩
theorem fk45 : FnOk Try.prog 45 := ⟨_, _, Try.func45, rfl, by kernel_rfl⟩
theorem fk46 : FnOk Try.prog 46 := ⟨_, _, Try.func46, rfl, by kernel_rfl⟩
theorem fk47 : FnOk Try.prog 47 := ⟨_, _, Try.func47, rfl, by kernel_rfl⟩
theorem fk48 : FnOk Try.prog 48 := ⟨_, _, Try.func48, rfl, by kernel_rfl⟩
theorem fk49 : FnOk Try.prog 49 := ⟨_, _, Try.func49, rfl, by kernel_rfl⟩
theorem fk50 : FnOk Try.prog 50 := ⟨_, _, Try.func50, rfl, by kernel_rfl⟩
theorem fk51 : FnOk Try.prog 51 := ⟨_, _, Try.func51, rfl, by kernel_rfl⟩
theorem fk52 : FnOk Try.prog 52 := ⟨_, _, Try.func52, rfl, by kernel_rfl⟩
theorem fk53 : FnOk Try.prog 53 := ⟨_, _, Try.func53, rfl, by kernel_rfl⟩
theorem fk54 : FnOk Try.prog 54 := ⟨_, _, Try.func54, rfl, by kernel_rfl⟩
theorem fk55 : FnOk Try.prog 55 := ⟨_, _, Try.func55, rfl, by kernel_rfl⟩
theorem fk56 : FnOk Try.prog 56 := ⟨_, _, Try.func56, rfl, by kernel_rfl⟩
theorem fk58 : FnOk Try.prog 58 := ⟨_, _, Try.func58, rfl, by kernel_rfl⟩
theorem fk59 : FnOk Try.prog 59 := ⟨_, _, Try.func59, rfl, by kernel_rfl⟩
theorem fk60 : FnOk Try.prog 60 := ⟨_, _, Try.func60, rfl, by kernel_rfl⟩
theorem fk61 : FnOk Try.prog 61 := ⟨_, _, Try.func61, rfl, by kernel_rfl⟩
theorem fk62 : FnOk Try.prog 62 := ⟨_, _, Try.func62, rfl, by kernel_rfl⟩
theorem fk63 : FnOk Try.prog 63 := ⟨_, _, Try.func63, rfl, by kernel_rfl⟩
theorem fk64 : FnOk Try.prog 64 := ⟨_, _, Try.func64, rfl, by kernel_rfl⟩
theorem fk65 : FnOk Try.prog 65 := ⟨_, _, Try.func65, rfl, by kernel_rfl⟩
theorem fk66 : FnOk Try.prog 66 := ⟨_, _, Try.func66, rfl, by kernel_rfl⟩
theorem fk67 : FnOk Try.prog 67 := ⟨_, _, Try.func67, rfl, by kernel_rfl⟩
theorem fk68 : FnOk Try.prog 68 := ⟨_, _, Try.func68, rfl, by kernel_rfl⟩
theorem fk69 : FnOk Try.prog 69 := ⟨_, _, Try.func69, rfl, by kernel_rfl⟩
theorem fk70 : FnOk Try.prog 70 := ⟨_, _, Try.func70, rfl, by kernel_rfl⟩
theorem fk72 : FnOk Try.prog 72 := ⟨_, _, Try.func72, rfl, by kernel_rfl⟩
theorem fk73 : FnOk Try.prog 73 := ⟨_, _, Try.func73, rfl, by kernel_rfl⟩
theorem fk74 : FnOk Try.prog 74 := ⟨_, _, Try.func74, rfl, by kernel_rfl⟩
theorem fk75 : FnOk Try.prog 75 := ⟨_, _, Try.func75, rfl, by kernel_rfl⟩
theorem fk76 : FnOk Try.prog 76 := ⟨_, _, Try.func76, rfl, by kernel_rfl⟩
theorem fk77 : FnOk Try.prog 77 := ⟨_, _, Try.func77, rfl, by kernel_rfl⟩
theorem fk78 : FnOk Try.prog 78 := ⟨_, _, Try.func78, rfl, by kernel_rfl⟩
theorem fk79 : FnOk Try.prog 79 := ⟨_, _, Try.func79, rfl, by kernel_rfl⟩
theorem mixed : Try.prog.follows .mixedOrders = true := by kernel_rfl
end Go.Proofs.Ytboofbgcdhjhnaa
