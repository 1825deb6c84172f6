/-
  What the types of this seat are: facts for the symbolic machine, by our program ti.py.
-/
import Derived.Test.YtconldbakjfbhaaProg
import Derived.Test.YtconldbakjfbhaaSx3
import Derived.KernelRfl
open Go Go.SX
namespace Go.Proofs.Ytconldbakjfbhaa
theorem ti0 : ti Try.prog 0 = some { sz := 1, by_ := 0, ag := false, kd := Go.SX.KD.other, z := some [Go.Value.tuple { toList := [] }], segs := [1] } := by kernel_rfl
theorem ti1 : ti Try.prog 1 = some { sz := 1, by_ := 8, ag := false, kd := Go.SX.KD.other, z := some [Go.Value.nilFunc], segs := [1] } := by kernel_rfl
theorem ti2 : ti Try.prog 2 = some { sz := 1, by_ := 8, ag := false, kd := Go.SX.KD.int Go.IntKind.i64, z := some [Go.Value.int Go.IntKind.i64 0], segs := [1] } := by kernel_rfl
theorem ti3 : ti Try.prog 3 = some { sz := 1, by_ := 8, ag := false, kd := Go.SX.KD.int Go.IntKind.i64, z := some [Go.Value.int Go.IntKind.i64 0], segs := [1] } := by kernel_rfl
theorem ti4 : ti Try.prog 4 = some { sz := 1, by_ := 1, ag := false, kd := Go.SX.KD.bool, z := some [Go.Value.bool false], segs := [1] } := by kernel_rfl
theorem ti5 : ti Try.prog 5 = some { sz := 1, by_ := 1, ag := false, kd := Go.SX.KD.int Go.IntKind.u8, z := some [Go.Value.int Go.IntKind.u8 0], segs := [1] } := by kernel_rfl
theorem ti6 : ti Try.prog 6 = some { sz := 1, by_ := 1, ag := false, kd := Go.SX.KD.int Go.IntKind.u8, z := some [Go.Value.int Go.IntKind.u8 0], segs := [1] } := by kernel_rfl
theorem ti7 : ti Try.prog 7 = some { sz := 4, by_ := 24, ag := true, kd := Go.SX.KD.struct [(0, 1, false), (1, 1, false), (2, 1, false), (3, 1, false)], z := some [Go.Value.int Go.IntKind.i64 0, Go.Value.int Go.IntKind.i64 0, Go.Value.bool false, Go.Value.int Go.IntKind.u8 0], segs := [1, 1, 1, 1] } := by kernel_rfl
theorem ti8 : ti Try.prog 8 = some { sz := 4, by_ := 24, ag := true, kd := Go.SX.KD.struct [(0, 1, false), (1, 1, false), (2, 1, false), (3, 1, false)], z := some [Go.Value.int Go.IntKind.i64 0, Go.Value.int Go.IntKind.i64 0, Go.Value.bool false, Go.Value.int Go.IntKind.u8 0], segs := [1, 1, 1, 1] } := by kernel_rfl
theorem ti9 : ti Try.prog 9 = some { sz := 1, by_ := 16, ag := false, kd := Go.SX.KD.str, z := some [Go.Value.string { data := { toList := [] } }], segs := [1] } := by kernel_rfl
theorem ti10 : ti Try.prog 10 = some { sz := 1, by_ := 16, ag := false, kd := Go.SX.KD.str, z := some [Go.Value.string { data := { toList := [] } }], segs := [1] } := by kernel_rfl
theorem ti11 : ti Try.prog 11 = some { sz := 1, by_ := 16, ag := false, kd := Go.SX.KD.str, z := some [Go.Value.string { data := { toList := [] } }], segs := [1] } := by kernel_rfl
theorem ti12 : ti Try.prog 12 = some { sz := 1, by_ := 8, ag := false, kd := Go.SX.KD.int Go.IntKind.u64, z := some [Go.Value.int Go.IntKind.u64 0], segs := [1] } := by kernel_rfl
theorem ti13 : ti Try.prog 13 = some { sz := 2, by_ := 24, ag := true, kd := Go.SX.KD.struct [(0, 1, false), (1, 1, false)], z := some [Go.Value.string { data := { toList := [] } }, Go.Value.int Go.IntKind.u64 0], segs := [1, 1] } := by kernel_rfl
theorem ti14 : ti Try.prog 14 = some { sz := 2, by_ := 24, ag := true, kd := Go.SX.KD.struct [(0, 1, false), (1, 1, false)], z := some [Go.Value.string { data := { toList := [] } }, Go.Value.int Go.IntKind.u64 0], segs := [1, 1] } := by kernel_rfl
theorem ti15 : ti Try.prog 15 = some { sz := 1, by_ := 8, ag := false, kd := Go.SX.KD.ptr 52, z := some [Go.Value.pointer none], segs := [1] } := by kernel_rfl
theorem ti16 : ti Try.prog 16 = some { sz := 1, by_ := 8, ag := false, kd := Go.SX.KD.ptr 55, z := some [Go.Value.pointer none], segs := [1] } := by kernel_rfl
theorem ti17 : ti Try.prog 17 = some { sz := 1, by_ := 8, ag := false, kd := Go.SX.KD.ptr 64, z := some [Go.Value.pointer none], segs := [1] } := by kernel_rfl
theorem ti18 : ti Try.prog 18 = some { sz := 1, by_ := 8, ag := true, kd := Go.SX.KD.struct [(0, 1, false)], z := some [Go.Value.pointer none], segs := [1] } := by kernel_rfl
theorem ti19 : ti Try.prog 19 = some { sz := 1, by_ := 8, ag := true, kd := Go.SX.KD.struct [(0, 1, false)], z := some [Go.Value.pointer none], segs := [1] } := by kernel_rfl
theorem ti20 : ti Try.prog 20 = some { sz := 1, by_ := 16, ag := false, kd := Go.SX.KD.other, z := some [Go.Value.nilIface], segs := [1] } := by kernel_rfl
theorem ti21 : ti Try.prog 21 = some { sz := 1, by_ := 4, ag := false, kd := Go.SX.KD.int Go.IntKind.i32, z := some [Go.Value.int Go.IntKind.i32 0], segs := [1] } := by kernel_rfl
theorem ti22 : ti Try.prog 22 = some { sz := 1, by_ := 24, ag := false, kd := Go.SX.KD.slice 3 1 8, z := some [Go.Value.slice Option.none 0 0], segs := [1] } := by kernel_rfl
theorem ti23 : ti Try.prog 23 = some { sz := 1, by_ := 8, ag := false, kd := Go.SX.KD.other, z := some [Go.Value.nilFunc], segs := [1] } := by kernel_rfl
theorem ti24 : ti Try.prog 24 = some { sz := 1, by_ := 8, ag := false, kd := Go.SX.KD.other, z := some [Go.Value.nilFunc], segs := [1] } := by kernel_rfl
theorem ti25 : ti Try.prog 25 = some { sz := 1, by_ := 8, ag := false, kd := Go.SX.KD.ptr 41, z := some [Go.Value.pointer none], segs := [1] } := by kernel_rfl
theorem ti26 : ti Try.prog 26 = some { sz := 1, by_ := 8, ag := false, kd := Go.SX.KD.int Go.IntKind.i64, z := some [Go.Value.int Go.IntKind.i64 0], segs := [1] } := by kernel_rfl
theorem ti27 : ti Try.prog 27 = some { sz := 1, by_ := 0, ag := false, kd := Go.SX.KD.other, z := some [Go.Value.tuple { toList := [Go.Value.pointer none, Go.Value.int Go.IntKind.i64 0] }], segs := [1] } := by kernel_rfl
theorem ti28 : ti Try.prog 28 = some { sz := 1, by_ := 8, ag := false, kd := Go.SX.KD.other, z := some [Go.Value.nilFunc], segs := [1] } := by kernel_rfl
theorem ti29 : ti Try.prog 29 = some { sz := 1, by_ := 8, ag := false, kd := Go.SX.KD.ptr 39, z := some [Go.Value.pointer none], segs := [1] } := by kernel_rfl
theorem ti30 : ti Try.prog 30 = some { sz := 1, by_ := 0, ag := false, kd := Go.SX.KD.other, z := some [Go.Value.tuple { toList := [Go.Value.pointer none, Go.Value.int Go.IntKind.i64 0] }], segs := [1] } := by kernel_rfl
theorem ti31 : ti Try.prog 31 = some { sz := 1, by_ := 8, ag := false, kd := Go.SX.KD.other, z := some [Go.Value.nilFunc], segs := [1] } := by kernel_rfl
theorem ti32 : ti Try.prog 32 = some { sz := 1, by_ := 8, ag := false, kd := Go.SX.KD.other, z := some [Go.Value.nilFunc], segs := [1] } := by kernel_rfl
theorem ti33 : ti Try.prog 33 = some { sz := 1, by_ := 8, ag := false, kd := Go.SX.KD.other, z := some [Go.Value.nilFunc], segs := [1] } := by kernel_rfl
theorem ti34 : ti Try.prog 34 = some { sz := 1, by_ := 8, ag := false, kd := Go.SX.KD.other, z := some [Go.Value.nilFunc], segs := [1] } := by kernel_rfl
theorem ti35 : ti Try.prog 35 = some { sz := 1, by_ := 8, ag := false, kd := Go.SX.KD.other, z := some [Go.Value.nilFunc], segs := [1] } := by kernel_rfl
theorem ti36 : ti Try.prog 36 = some { sz := 1, by_ := 8, ag := false, kd := Go.SX.KD.other, z := some [Go.Value.nilFunc], segs := [1] } := by kernel_rfl
theorem ti37 : ti Try.prog 37 = some { sz := 1, by_ := 8, ag := false, kd := Go.SX.KD.other, z := some [Go.Value.nilFunc], segs := [1] } := by kernel_rfl
theorem ti38 : ti Try.prog 38 = some { sz := 2, by_ := 32, ag := true, kd := Go.SX.KD.struct [(0, 1, false), (1, 1, false)], z := some [Go.Value.slice Option.none 0 0, Go.Value.int Go.IntKind.i64 0], segs := [1, 1] } := by kernel_rfl
theorem ti39 : ti Try.prog 39 = some { sz := 2, by_ := 32, ag := true, kd := Go.SX.KD.struct [(0, 1, false), (1, 1, false)], z := some [Go.Value.slice Option.none 0 0, Go.Value.int Go.IntKind.i64 0], segs := [1, 1] } := by kernel_rfl
theorem ti40 : ti Try.prog 40 = some { sz := 3, by_ := 40, ag := true, kd := Go.SX.KD.struct [(0, 1, false), (1, 1, false), (2, 1, false)], z := some [Go.Value.slice Option.none 0 0, Go.Value.int Go.IntKind.i64 0, Go.Value.bool false], segs := [1, 1, 1] } := by kernel_rfl
theorem ti41 : ti Try.prog 41 = some { sz := 3, by_ := 40, ag := true, kd := Go.SX.KD.struct [(0, 1, false), (1, 1, false), (2, 1, false)], z := some [Go.Value.slice Option.none 0 0, Go.Value.int Go.IntKind.i64 0, Go.Value.bool false], segs := [1, 1, 1] } := by kernel_rfl
theorem ti42 : ti Try.prog 42 = some { sz := 1, by_ := 24, ag := false, kd := Go.SX.KD.slice 25 1 8, z := some [Go.Value.slice Option.none 0 0], segs := [1] } := by kernel_rfl
theorem ti43 : ti Try.prog 43 = some { sz := 1, by_ := 8, ag := false, kd := Go.SX.KD.other, z := some [Go.Value.nilFunc], segs := [1] } := by kernel_rfl
theorem ti44 : ti Try.prog 44 = some { sz := 1, by_ := 8, ag := false, kd := Go.SX.KD.other, z := some [Go.Value.nilFunc], segs := [1] } := by kernel_rfl
theorem ti45 : ti Try.prog 45 = some { sz := 1, by_ := 24, ag := false, kd := Go.SX.KD.slice 4 1 1, z := some [Go.Value.slice Option.none 0 0], segs := [1] } := by kernel_rfl
theorem ti46 : ti Try.prog 46 = some { sz := 1, by_ := 8, ag := false, kd := Go.SX.KD.other, z := some [Go.Value.nilFunc], segs := [1] } := by kernel_rfl
theorem ti47 : ti Try.prog 47 = some { sz := 1, by_ := 8, ag := false, kd := Go.SX.KD.other, z := some [Go.Value.nilFunc], segs := [1] } := by kernel_rfl
theorem ti48 : ti Try.prog 48 = some { sz := 1, by_ := 8, ag := false, kd := Go.SX.KD.other, z := some [Go.Value.nilFunc], segs := [1] } := by kernel_rfl
theorem ti49 : ti Try.prog 49 = some { sz := 1, by_ := 8, ag := false, kd := Go.SX.KD.other, z := some [Go.Value.nilFunc], segs := [1] } := by kernel_rfl
theorem ti50 : ti Try.prog 50 = some { sz := 1, by_ := 8, ag := false, kd := Go.SX.KD.other, z := some [Go.Value.nilFunc], segs := [1] } := by kernel_rfl
theorem ti51 : ti Try.prog 51 = some { sz := 4, by_ := 40, ag := true, kd := Go.SX.KD.struct [(0, 1, false), (1, 1, false), (2, 1, false), (3, 1, false)], z := some [Go.Value.pointer none, Go.Value.pointer none, Go.Value.pointer none, Go.Value.string { data := { toList := [] } }], segs := [1, 1, 1, 1] } := by kernel_rfl
theorem ti52 : ti Try.prog 52 = some { sz := 4, by_ := 40, ag := true, kd := Go.SX.KD.struct [(0, 1, false), (1, 1, false), (2, 1, false), (3, 1, false)], z := some [Go.Value.pointer none, Go.Value.pointer none, Go.Value.pointer none, Go.Value.string { data := { toList := [] } }], segs := [1, 1, 1, 1] } := by kernel_rfl
theorem ti53 : ti Try.prog 53 = some { sz := 0, by_ := 0, ag := true, kd := Go.SX.KD.arr 0 16 1, z := some [], segs := [0] } := by kernel_rfl
theorem ti54 : ti Try.prog 54 = some { sz := 0, by_ := 0, ag := true, kd := Go.SX.KD.struct [(0, 0, true)], z := some [], segs := [0] } := by kernel_rfl
theorem ti55 : ti Try.prog 55 = some { sz := 0, by_ := 0, ag := true, kd := Go.SX.KD.struct [(0, 0, true)], z := some [], segs := [0] } := by kernel_rfl
theorem ti56 : ti Try.prog 56 = some { sz := 1, by_ := 4, ag := false, kd := Go.SX.KD.int Go.IntKind.u32, z := some [Go.Value.int Go.IntKind.u32 0], segs := [1] } := by kernel_rfl
theorem ti57 : ti Try.prog 57 = some { sz := 1, by_ := 1, ag := false, kd := Go.SX.KD.int Go.IntKind.u8, z := some [Go.Value.int Go.IntKind.u8 0], segs := [1] } := by kernel_rfl
theorem ti58 : ti Try.prog 58 = some { sz := 1, by_ := 1, ag := false, kd := Go.SX.KD.int Go.IntKind.u8, z := some [Go.Value.int Go.IntKind.u8 0], segs := [1] } := by kernel_rfl
theorem ti59 : ti Try.prog 59 = some { sz := 1, by_ := 8, ag := false, kd := Go.SX.KD.other, z := some [Go.Value.nilFunc], segs := [1] } := by kernel_rfl
theorem ti60 : ti Try.prog 60 = some { sz := 1, by_ := 8, ag := false, kd := Go.SX.KD.ptr 5, z := some [Go.Value.pointer none], segs := [1] } := by kernel_rfl
theorem ti61 : ti Try.prog 61 = some { sz := 1, by_ := 4, ag := false, kd := Go.SX.KD.int Go.IntKind.i32, z := some [Go.Value.int Go.IntKind.i32 0], segs := [1] } := by kernel_rfl
theorem ti62 : ti Try.prog 62 = some { sz := 1, by_ := 4, ag := false, kd := Go.SX.KD.int Go.IntKind.i32, z := some [Go.Value.int Go.IntKind.i32 0], segs := [1] } := by kernel_rfl
theorem ti63 : ti Try.prog 63 = some { sz := 11, by_ := 48, ag := true, kd := Go.SX.KD.struct [(0, 1, false), (1, 1, false), (2, 1, false), (3, 1, false), (4, 1, false), (5, 1, false), (6, 1, false), (7, 1, false), (8, 1, false), (9, 1, false), (10, 1, false)], z := some [Go.Value.int Go.IntKind.u64 0, Go.Value.int Go.IntKind.u64 0, Go.Value.int Go.IntKind.u32 0, Go.Value.int Go.IntKind.u8 0, Go.Value.int Go.IntKind.u8 0, Go.Value.int Go.IntKind.u8 0, Go.Value.int Go.IntKind.u8 0, Go.Value.nilFunc, Go.Value.pointer none, Go.Value.int Go.IntKind.i32 0, Go.Value.int Go.IntKind.i32 0], segs := [1, 1, 1, 1, 1, 1, 1, 1, 1, 1, 1] } := by kernel_rfl
theorem ti64 : ti Try.prog 64 = some { sz := 11, by_ := 48, ag := true, kd := Go.SX.KD.struct [(0, 1, false), (1, 1, false), (2, 1, false), (3, 1, false), (4, 1, false), (5, 1, false), (6, 1, false), (7, 1, false), (8, 1, false), (9, 1, false), (10, 1, false)], z := some [Go.Value.int Go.IntKind.u64 0, Go.Value.int Go.IntKind.u64 0, Go.Value.int Go.IntKind.u32 0, Go.Value.int Go.IntKind.u8 0, Go.Value.int Go.IntKind.u8 0, Go.Value.int Go.IntKind.u8 0, Go.Value.int Go.IntKind.u8 0, Go.Value.nilFunc, Go.Value.pointer none, Go.Value.int Go.IntKind.i32 0, Go.Value.int Go.IntKind.i32 0], segs := [1, 1, 1, 1, 1, 1, 1, 1, 1, 1, 1] } := by kernel_rfl
theorem ti65 : ti Try.prog 65 = some { sz := 1, by_ := 8, ag := false, kd := Go.SX.KD.other, z := some [Go.Value.pointer none], segs := [1] } := by kernel_rfl
end Go.Proofs.Ytconldbakjfbhaa
