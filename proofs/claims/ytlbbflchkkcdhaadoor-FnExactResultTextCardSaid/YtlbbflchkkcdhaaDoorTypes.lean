/-
  The facts of the types.
  Conditions: none.
-/
import Derived.Test.YtlbbflchkkcdhaaDoorCalcB
import Derived.Test.YtlbbflchkkcdhaaDoorProg
import Derived.KernelRfl
set_option linter.unusedVariables false
set_option linter.unusedSimpArgs false
namespace Go.Proofs.YtlbbflchkkcdhaaDoor
open Go Go.Dv
open Go.Vc (tyS fieldOff placesS elemS lenK zeroOk TS)
theorem t0 : Go.Vc.tyS Tryd.prog 1 = .one ∧
  bytesTo Tryd.prog 2 = none ∧
  Go.Vc.tyS Tryd.prog 2 = .one ∧
  (Tryd.prog.underlying 2).isSome = true ∧
  Tryd.prog.underlying 2 = some (.int (Tryd.prog.intKind 2)) ∧
  Tryd.prog.intKind 2 = .i64 ∧
  zeroD Tryd.prog 2 = some [.int .i64 0] ∧
  bytesTo Tryd.prog 3 = none ∧
  Go.Vc.tyS Tryd.prog 3 = .one ∧
  (Tryd.prog.underlying 3).isSome = true ∧
  Tryd.prog.underlying 3 = some (.int (Tryd.prog.intKind 3)) ∧
  Tryd.prog.intKind 3 = .i64 ∧
  zeroD Tryd.prog 3 = some [.int .i64 0] ∧
  Go.Vc.tyS Tryd.prog 4 = .one ∧
  Tryd.prog.underlying 4 = some .bool ∧
  zeroD Tryd.prog 4 = some [.bool false] ∧
  bytesTo Tryd.prog 5 = none ∧
  Go.Vc.tyS Tryd.prog 5 = .one ∧
  (Tryd.prog.underlying 5).isSome = true ∧
  Tryd.prog.underlying 5 = some (.int (Tryd.prog.intKind 5)) ∧
  Tryd.prog.intKind 5 = .u8 ∧
  zeroD Tryd.prog 5 = some [.int .u8 0] ∧
  bytesTo Tryd.prog 9 = none ∧
  Go.Vc.tyS Tryd.prog 9 = .one ∧
  Go.Vc.lenK Tryd.prog 9 = 2 ∧
  Tryd.prog.underlying 9 = some .string ∧
  zeroD Tryd.prog 9 = some [.string ByteArray.empty] ∧
  bytesTo Tryd.prog 12 = none ∧
  Go.Vc.tyS Tryd.prog 12 = .one ∧
  (Tryd.prog.underlying 12).isSome = true ∧
  Tryd.prog.underlying 12 = some (.int (Tryd.prog.intKind 12)) ∧
  Tryd.prog.intKind 12 = .u64 ∧
  zeroD Tryd.prog 12 = some [.int .u64 0] ∧
  Go.Vc.tyS Tryd.prog 13 = .agg 2 ∧
  Go.Vc.fieldOff Tryd.prog 13 0 = some 0 ∧
  Go.Vc.fieldOff Tryd.prog 13 1 = some 1 ∧
  Go.Vc.placesS Tryd.prog 13 = some [(0, 1), (1, 1)] ∧
  zeroD Tryd.prog 13 = some [.string ByteArray.empty, .int .u64 0] ∧
  bytesTo Tryd.prog 21 = none ∧
  Go.Vc.tyS Tryd.prog 21 = .one :=
  ⟨by kernel_rfl, by kernel_rfl, by kernel_rfl, by kernel_rfl, by kernel_rfl, by kernel_rfl, by kernel_rfl, by kernel_rfl, by kernel_rfl, by kernel_rfl, by kernel_rfl, by kernel_rfl, by kernel_rfl, by kernel_rfl, by kernel_rfl, by kernel_rfl, by kernel_rfl, by kernel_rfl, by kernel_rfl, by kernel_rfl, by kernel_rfl, by kernel_rfl, by kernel_rfl, by kernel_rfl, by kernel_rfl, by kernel_rfl, by kernel_rfl, by kernel_rfl, by kernel_rfl, by kernel_rfl, by kernel_rfl, by kernel_rfl, by kernel_rfl, by kernel_rfl, by kernel_rfl, by kernel_rfl, by kernel_rfl, by kernel_rfl, by kernel_rfl, by kernel_rfl⟩
theorem t1 : (Tryd.prog.underlying 21).isSome = true ∧
  Tryd.prog.underlying 21 = some (.int (Tryd.prog.intKind 21)) ∧
  Tryd.prog.intKind 21 = .i32 ∧
  zeroD Tryd.prog 21 = some [.int .i32 0] ∧
  Go.Vc.tyS Tryd.prog 22 = .agg 2 ∧
  Go.Vc.fieldOff Tryd.prog 22 0 = some 0 ∧
  Go.Vc.fieldOff Tryd.prog 22 1 = some 1 ∧
  Go.Vc.placesS Tryd.prog 22 = some [(0, 1), (1, 1)] ∧
  zeroD Tryd.prog 22 = some [.int .i64 0, .string ByteArray.empty] ∧
  Go.Vc.tyS Tryd.prog 23 = .agg 2 ∧
  Go.Vc.fieldOff Tryd.prog 23 0 = some 0 ∧
  Go.Vc.fieldOff Tryd.prog 23 1 = some 1 ∧
  Go.Vc.placesS Tryd.prog 23 = some [(0, 1), (1, 1)] ∧
  zeroD Tryd.prog 23 = some [.int .i64 0, .string ByteArray.empty] ∧
  bytesTo Tryd.prog 24 = none ∧
  Go.Vc.tyS Tryd.prog 24 = .one ∧
  Go.Vc.elemS Tryd.prog 24 = some (46, 1, 24) ∧
  elemZ Tryd.prog 24 = some (46, 1, 24, [.sl 0 []]) ∧
  Go.Vc.lenK Tryd.prog 24 = 1 ∧
  Go.Vc.zeroOk Tryd.prog 24 = true ∧
  zeroD Tryd.prog 24 = some [.slice none 0 0] ∧
  Go.Vc.tyS Tryd.prog 25 = .agg 5 ∧
  Go.Vc.fieldOff Tryd.prog 25 0 = some 0 ∧
  Go.Vc.fieldOff Tryd.prog 25 1 = some 2 ∧
  Go.Vc.fieldOff Tryd.prog 25 2 = some 3 ∧
  Go.Vc.fieldOff Tryd.prog 25 3 = some 4 ∧
  Go.Vc.placesS Tryd.prog 25 = some [(0, 2), (2, 1), (3, 1), (4, 1)] ∧
  zeroD Tryd.prog 25 = some [.int .i64 0, .string ByteArray.empty, .int .i64 0, .slice none 0 0, .int .i64 0] ∧
  Go.Vc.tyS Tryd.prog 26 = .agg 5 ∧
  Go.Vc.fieldOff Tryd.prog 26 0 = some 0 ∧
  Go.Vc.fieldOff Tryd.prog 26 1 = some 2 ∧
  Go.Vc.fieldOff Tryd.prog 26 2 = some 3 ∧
  Go.Vc.fieldOff Tryd.prog 26 3 = some 4 ∧
  Go.Vc.placesS Tryd.prog 26 = some [(0, 2), (2, 1), (3, 1), (4, 1)] ∧
  zeroD Tryd.prog 26 = some [.int .i64 0, .string ByteArray.empty, .int .i64 0, .slice none 0 0, .int .i64 0] ∧
  Go.Vc.tyS Tryd.prog 27 = .one ∧
  Go.Vc.tyS Tryd.prog 28 = .one ∧
  Go.Vc.tyS Tryd.prog 29 = .agg 2 ∧
  Go.Vc.fieldOff Tryd.prog 29 0 = some 0 ∧
  Go.Vc.fieldOff Tryd.prog 29 1 = some 1 :=
  ⟨by kernel_rfl, by kernel_rfl, by kernel_rfl, by kernel_rfl, by kernel_rfl, by kernel_rfl, by kernel_rfl, by kernel_rfl, by kernel_rfl, by kernel_rfl, by kernel_rfl, by kernel_rfl, by kernel_rfl, by kernel_rfl, by kernel_rfl, by kernel_rfl, by kernel_rfl, by kernel_rfl, by kernel_rfl, by kernel_rfl, by kernel_rfl, by kernel_rfl, by kernel_rfl, by kernel_rfl, by kernel_rfl, by kernel_rfl, by kernel_rfl, by kernel_rfl, by kernel_rfl, by kernel_rfl, by kernel_rfl, by kernel_rfl, by kernel_rfl, by kernel_rfl, by kernel_rfl, by kernel_rfl, by kernel_rfl, by kernel_rfl, by kernel_rfl, by kernel_rfl⟩
theorem t2 : Go.Vc.placesS Tryd.prog 29 = some [(0, 1), (1, 1)] ∧
  zeroD Tryd.prog 29 = some [.int .i64 0, .string ByteArray.empty] ∧
  bytesTo Tryd.prog 30 = none ∧
  Go.Vc.tyS Tryd.prog 30 = .one ∧
  Go.Vc.elemS Tryd.prog 30 = some (51, 1, 24) ∧
  elemZ Tryd.prog 30 = some (51, 1, 24, [.sl 0 []]) ∧
  Go.Vc.lenK Tryd.prog 30 = 1 ∧
  Go.Vc.zeroOk Tryd.prog 30 = true ∧
  zeroD Tryd.prog 30 = some [.slice none 0 0] ∧
  Go.Vc.tyS Tryd.prog 31 = .agg 5 ∧
  Go.Vc.fieldOff Tryd.prog 31 0 = some 0 ∧
  Go.Vc.fieldOff Tryd.prog 31 1 = some 2 ∧
  Go.Vc.fieldOff Tryd.prog 31 2 = some 3 ∧
  Go.Vc.fieldOff Tryd.prog 31 3 = some 4 ∧
  Go.Vc.placesS Tryd.prog 31 = some [(0, 2), (2, 1), (3, 1), (4, 1)] ∧
  zeroD Tryd.prog 31 = some [.int .i64 0, .string ByteArray.empty, .int .i64 0, .slice none 0 0, .int .i64 0] ∧
  Go.Vc.tyS Tryd.prog 32 = .agg 5 ∧
  Go.Vc.fieldOff Tryd.prog 32 0 = some 0 ∧
  Go.Vc.fieldOff Tryd.prog 32 1 = some 2 ∧
  Go.Vc.fieldOff Tryd.prog 32 2 = some 3 ∧
  Go.Vc.fieldOff Tryd.prog 32 3 = some 4 ∧
  Go.Vc.placesS Tryd.prog 32 = some [(0, 2), (2, 1), (3, 1), (4, 1)] ∧
  zeroD Tryd.prog 32 = some [.int .i64 0, .string ByteArray.empty, .int .i64 0, .slice none 0 0, .int .i64 0] ∧
  Go.Vc.tyS Tryd.prog 33 = .one ∧
  Go.Vc.tyS Tryd.prog 34 = .one ∧
  Go.Vc.tyS Tryd.prog 35 = .one ∧
  Go.Vc.tyS Tryd.prog 36 = .one ∧
  Go.Vc.tyS Tryd.prog 37 = .one ∧
  Go.Vc.tyS Tryd.prog 38 = .one ∧
  Go.Vc.tyS Tryd.prog 39 = .one ∧
  Go.Vc.tyS Tryd.prog 40 = .one ∧
  Go.Vc.tyS Tryd.prog 41 = .one ∧
  Go.Vc.tyS Tryd.prog 42 = .one ∧
  Go.Vc.tyS Tryd.prog 43 = .one ∧
  Go.Vc.tyS Tryd.prog 44 = .one ∧
  Go.Vc.tyS Tryd.prog 45 = .one ∧
  bytesTo Tryd.prog 46 = none ∧
  Go.Vc.tyS Tryd.prog 46 = .one ∧
  Go.Vc.elemS Tryd.prog 46 = some (66, 3, 32) ∧
  elemZ Tryd.prog 46 = some (66, 3, 32, [.lit (.int .i64 0), .lit (.int .i64 0), .lit (.string ByteArray.empty)]) :=
  ⟨by kernel_rfl, by kernel_rfl, by kernel_rfl, by kernel_rfl, by kernel_rfl, by kernel_rfl, by kernel_rfl, by kernel_rfl, by kernel_rfl, by kernel_rfl, by kernel_rfl, by kernel_rfl, by kernel_rfl, by kernel_rfl, by kernel_rfl, by kernel_rfl, by kernel_rfl, by kernel_rfl, by kernel_rfl, by kernel_rfl, by kernel_rfl, by kernel_rfl, by kernel_rfl, by kernel_rfl, by kernel_rfl, by kernel_rfl, by kernel_rfl, by kernel_rfl, by kernel_rfl, by kernel_rfl, by kernel_rfl, by kernel_rfl, by kernel_rfl, by kernel_rfl, by kernel_rfl, by kernel_rfl, by kernel_rfl, by kernel_rfl, by kernel_rfl, by kernel_rfl⟩
theorem t3 : Go.Vc.lenK Tryd.prog 46 = 1 ∧
  Go.Vc.zeroOk Tryd.prog 46 = true ∧
  zeroD Tryd.prog 46 = some [.slice none 0 0] ∧
  Go.Vc.tyS Tryd.prog 47 = .one ∧
  bytesTo Tryd.prog 48 = none ∧
  Go.Vc.tyS Tryd.prog 48 = .one ∧
  Go.Vc.elemS Tryd.prog 48 = some (9, 1, 16) ∧
  elemZ Tryd.prog 48 = some (9, 1, 16, [.lit (.string ByteArray.empty)]) ∧
  Go.Vc.lenK Tryd.prog 48 = 1 ∧
  Go.Vc.zeroOk Tryd.prog 48 = true ∧
  zeroD Tryd.prog 48 = some [.slice none 0 0] ∧
  Go.Vc.tyS Tryd.prog 49 = .one ∧
  bytesTo Tryd.prog 50 = some 5 ∧
  Go.Vc.tyS Tryd.prog 50 = .one ∧
  Go.Vc.elemS Tryd.prog 50 = some (5, 1, 1) ∧
  elemZ Tryd.prog 50 = some (5, 1, 1, [.lit (.int .u8 0)]) ∧
  Go.Vc.lenK Tryd.prog 50 = 1 ∧
  Go.Vc.zeroOk Tryd.prog 50 = true ∧
  zeroD Tryd.prog 50 = some [.slice none 0 0] ∧
  bytesTo Tryd.prog 51 = none ∧
  Go.Vc.tyS Tryd.prog 51 = .one ∧
  Go.Vc.elemS Tryd.prog 51 = some (54, 3, 32) ∧
  elemZ Tryd.prog 51 = some (54, 3, 32, [.lit (.int .i64 0), .lit (.int .i64 0), .lit (.string ByteArray.empty)]) ∧
  Go.Vc.lenK Tryd.prog 51 = 1 ∧
  Go.Vc.zeroOk Tryd.prog 51 = true ∧
  zeroD Tryd.prog 51 = some [.slice none 0 0] ∧
  Go.Vc.tyS Tryd.prog 52 = .one ∧
  Go.Vc.tyS Tryd.prog 53 = .agg 3 ∧
  Go.Vc.fieldOff Tryd.prog 53 0 = some 0 ∧
  Go.Vc.fieldOff Tryd.prog 53 1 = some 1 ∧
  Go.Vc.fieldOff Tryd.prog 53 2 = some 2 ∧
  Go.Vc.placesS Tryd.prog 53 = some [(0, 1), (1, 1), (2, 1)] ∧
  zeroD Tryd.prog 53 = some [.int .i64 0, .int .i64 0, .string ByteArray.empty] ∧
  Go.Vc.tyS Tryd.prog 54 = .agg 3 ∧
  Go.Vc.fieldOff Tryd.prog 54 0 = some 0 ∧
  Go.Vc.fieldOff Tryd.prog 54 1 = some 1 ∧
  Go.Vc.fieldOff Tryd.prog 54 2 = some 2 ∧
  Go.Vc.placesS Tryd.prog 54 = some [(0, 1), (1, 1), (2, 1)] ∧
  zeroD Tryd.prog 54 = some [.int .i64 0, .int .i64 0, .string ByteArray.empty] ∧
  Go.Vc.tyS Tryd.prog 55 = .one :=
  ⟨by kernel_rfl, by kernel_rfl, by kernel_rfl, by kernel_rfl, by kernel_rfl, by kernel_rfl, by kernel_rfl, by kernel_rfl, by kernel_rfl, by kernel_rfl, by kernel_rfl, by kernel_rfl, by kernel_rfl, by kernel_rfl, by kernel_rfl, by kernel_rfl, by kernel_rfl, by kernel_rfl, by kernel_rfl, by kernel_rfl, by kernel_rfl, by kernel_rfl, by kernel_rfl, by kernel_rfl, by kernel_rfl, by kernel_rfl, by kernel_rfl, by kernel_rfl, by kernel_rfl, by kernel_rfl, by kernel_rfl, by kernel_rfl, by kernel_rfl, by kernel_rfl, by kernel_rfl, by kernel_rfl, by kernel_rfl, by kernel_rfl, by kernel_rfl, by kernel_rfl⟩
theorem t4 : Go.Vc.tyS Tryd.prog 56 = .one ∧
  zeroD Tryd.prog 56 = some [.pointer none] ∧
  Go.Vc.tyS Tryd.prog 57 = .agg 2 ∧
  Go.Vc.fieldOff Tryd.prog 57 0 = some 0 ∧
  Go.Vc.fieldOff Tryd.prog 57 1 = some 1 ∧
  Go.Vc.placesS Tryd.prog 57 = some [(0, 1), (1, 1)] ∧
  zeroD Tryd.prog 57 = some [.pointer none, .slice none 0 0] ∧
  Go.Vc.tyS Tryd.prog 58 = .agg 2 ∧
  Go.Vc.fieldOff Tryd.prog 58 0 = some 0 ∧
  Go.Vc.fieldOff Tryd.prog 58 1 = some 1 ∧
  Go.Vc.placesS Tryd.prog 58 = some [(0, 1), (1, 1)] ∧
  zeroD Tryd.prog 58 = some [.pointer none, .slice none 0 0] ∧
  Go.Vc.tyS Tryd.prog 62 = .one ∧
  Go.Vc.tyS Tryd.prog 63 = .one ∧
  Go.Vc.tyS Tryd.prog 64 = .one ∧
  Go.Vc.tyS Tryd.prog 65 = .one ∧
  Go.Vc.tyS Tryd.prog 66 = .agg 3 ∧
  Go.Vc.fieldOff Tryd.prog 66 0 = some 0 ∧
  Go.Vc.fieldOff Tryd.prog 66 1 = some 1 ∧
  Go.Vc.fieldOff Tryd.prog 66 2 = some 2 ∧
  Go.Vc.placesS Tryd.prog 66 = some [(0, 1), (1, 1), (2, 1)] ∧
  zeroD Tryd.prog 66 = some [.int .i64 0, .int .i64 0, .string ByteArray.empty] ∧
  Go.Vc.tyS Tryd.prog 67 = .one ∧
  Go.Vc.tyS Tryd.prog 68 = .one ∧
  Go.Vc.tyS Tryd.prog 69 = .one ∧
  Go.Vc.tyS Tryd.prog 70 = .one ∧
  Go.Vc.tyS Tryd.prog 71 = .one ∧
  Go.Vc.tyS Tryd.prog 72 = .one ∧
  zeroD Tryd.prog 72 = some [.pointer none] ∧
  Go.Vc.tyS Tryd.prog 73 = .one ∧
  Go.Vc.tyS Tryd.prog 74 = .one ∧
  Go.Vc.tyS Tryd.prog 75 = .one ∧
  Go.Vc.tyS Tryd.prog 76 = .one ∧
  Go.Vc.tyS Tryd.prog 77 = .one ∧
  Go.Vc.tyS Tryd.prog 79 = .one ∧
  Go.Vc.tyS Tryd.prog 80 = .one ∧
  Go.Vc.tyS Tryd.prog 81 = .one ∧
  Go.Vc.tyS Tryd.prog 82 = .one ∧
  bytesTo Tryd.prog 84 = none ∧
  Go.Vc.tyS Tryd.prog 84 = .one :=
  ⟨by kernel_rfl, by kernel_rfl, by kernel_rfl, by kernel_rfl, by kernel_rfl, by kernel_rfl, by kernel_rfl, by kernel_rfl, by kernel_rfl, by kernel_rfl, by kernel_rfl, by kernel_rfl, by kernel_rfl, by kernel_rfl, by kernel_rfl, by kernel_rfl, by kernel_rfl, by kernel_rfl, by kernel_rfl, by kernel_rfl, by kernel_rfl, by kernel_rfl, by kernel_rfl, by kernel_rfl, by kernel_rfl, by kernel_rfl, by kernel_rfl, by kernel_rfl, by kernel_rfl, by kernel_rfl, by kernel_rfl, by kernel_rfl, by kernel_rfl, by kernel_rfl, by kernel_rfl, by kernel_rfl, by kernel_rfl, by kernel_rfl, by kernel_rfl, by kernel_rfl⟩
theorem t5 : (Tryd.prog.underlying 84).isSome = true ∧
  Tryd.prog.underlying 84 = some (.int (Tryd.prog.intKind 84)) ∧
  Tryd.prog.intKind 84 = .u64 ∧
  zeroD Tryd.prog 84 = some [.int .u64 0] ∧
  Go.Vc.tyS Tryd.prog 85 = .one ∧
  Go.Vc.tyS Tryd.prog 86 = .one ∧
  Go.Vc.tyS Tryd.prog 88 = .one ∧
  Go.Vc.tyS Tryd.prog 89 = .one ∧
  Go.Vc.tyS Tryd.prog 90 = .one ∧
  Go.Vc.tyS Tryd.prog 91 = .one ∧
  Go.Vc.tyS Tryd.prog 93 = .one ∧
  Go.Vc.tyS Tryd.prog 94 = .one ∧
  Go.Vc.tyS Tryd.prog 95 = .one ∧
  bytesTo Tryd.prog 97 = none ∧
  Go.Vc.tyS Tryd.prog 97 = .one ∧
  (Tryd.prog.underlying 97).isSome = true ∧
  Tryd.prog.underlying 97 = some (.int (Tryd.prog.intKind 97)) ∧
  Tryd.prog.intKind 97 = .u32 ∧
  zeroD Tryd.prog 97 = some [.int .u32 0] ∧
  Go.Vc.tyS Tryd.prog 99 = .one ∧
  bytesTo Tryd.prog 100 = none ∧
  Go.Vc.tyS Tryd.prog 100 = .one ∧
  (Tryd.prog.underlying 100).isSome = true ∧
  Tryd.prog.underlying 100 = some (.int (Tryd.prog.intKind 100)) ∧
  Tryd.prog.intKind 100 = .u64 ∧
  zeroD Tryd.prog 100 = some [.int .u64 0] ∧
  Go.Vc.tyS Tryd.prog 101 = .one ∧
  Go.Vc.tyS Tryd.prog 102 = .one ∧
  Go.Vc.tyS Tryd.prog 103 = .one ∧
  Go.Vc.tyS Tryd.prog 104 = .one ∧
  Go.Vc.tyS Tryd.prog 105 = .one ∧
  Go.Vc.tyS Tryd.prog 106 = .one ∧
  Go.Vc.tyS Tryd.prog 108 = .agg 2 ∧
  Go.Vc.fieldOff Tryd.prog 108 0 = some 0 ∧
  Go.Vc.fieldOff Tryd.prog 108 1 = some 1 ∧
  Go.Vc.placesS Tryd.prog 108 = some [(0, 1), (1, 1)] ∧
  zeroD Tryd.prog 108 = some [.int .u8 0, .int .u8 0] ∧
  Go.Vc.tyS Tryd.prog 109 = .agg 2 ∧
  Go.Vc.fieldOff Tryd.prog 109 0 = some 0 ∧
  Go.Vc.fieldOff Tryd.prog 109 1 = some 1 :=
  ⟨by kernel_rfl, by kernel_rfl, by kernel_rfl, by kernel_rfl, by kernel_rfl, by kernel_rfl, by kernel_rfl, by kernel_rfl, by kernel_rfl, by kernel_rfl, by kernel_rfl, by kernel_rfl, by kernel_rfl, by kernel_rfl, by kernel_rfl, by kernel_rfl, by kernel_rfl, by kernel_rfl, by kernel_rfl, by kernel_rfl, by kernel_rfl, by kernel_rfl, by kernel_rfl, by kernel_rfl, by kernel_rfl, by kernel_rfl, by kernel_rfl, by kernel_rfl, by kernel_rfl, by kernel_rfl, by kernel_rfl, by kernel_rfl, by kernel_rfl, by kernel_rfl, by kernel_rfl, by kernel_rfl, by kernel_rfl, by kernel_rfl, by kernel_rfl, by kernel_rfl⟩
theorem t6 : Go.Vc.placesS Tryd.prog 109 = some [(0, 1), (1, 1)] ∧
  zeroD Tryd.prog 109 = some [.int .u8 0, .int .u8 0] ∧
  Go.Vc.tyS Tryd.prog 114 = .one ∧
  Go.Vc.tyS Tryd.prog 120 = .one ∧
  Go.Vc.tyS Tryd.prog 123 = .one :=
  ⟨by kernel_rfl, by kernel_rfl, by kernel_rfl, by kernel_rfl, by kernel_rfl⟩
end Go.Proofs.YtlbbflchkkcdhaaDoor

namespace Go.Proofs.YtlbbflchkkcdhaaDoor
open Go Go.Dv
theorem dcrs : (∀ (p : Prop), (True ∧ p) = p) ∧
  (∀ (p : Prop), (p ∧ True) = p) ∧
  (∀ (p : Prop), (p ∧ False) = False) ∧
  (∀ (p : Prop), (False ∧ p) = False) ∧
  (∀ {p : Prop} [inst : Decidable p], (decide p = true) = p) ∧
  (∀ {p : Prop} {x : Decidable p}, decide p = false ↔ ¬p) ∧
  (∀ {α : Type} {a : α} {xs bs : List α}, a :: xs ++ bs = a :: (xs ++ bs)) ∧
  (∀ {α : Type} (xs : List α), [] ++ xs = xs) ∧
  ((false = true) = False) ∧ ((true = false) = False) ∧
  (∀ {α : Type} {xs : Array α}, #[] ++ xs = xs) ∧
  (∀ {α : Type} {xs : Array α}, xs ++ #[] = xs) ∧
  (∀ {α : Type} {a : α} {xs : List α}, List.length (a :: xs) = List.length xs + 1) ∧
  (∀ {α : Type}, List.length ([] : List α) = 0) ∧
  (∀ {α : Type} {a : α} {i : Nat} {l : List α}, (a :: l)[i + 1]? = l[i]?) ∧
  (∀ {α : Type} {a : α} {l : List α}, (a :: l)[0]? = some a) ∧
  (∀ {α : Type} (val val_1 : α), (some val = some val_1) = (val = val_1)) ∧
  (∀ (n : Nat), Int.toNat ↑n = n) ∧
  (∀ {α : Type} {xs : List α}, Array.toList (List.toArray xs) = xs) ∧
  (∀ {α : Type} {β : Type} {x : α} {xs : List α} {f : α → List β}, List.flatMap f (x :: xs) = f x ++ List.flatMap f xs) ∧
  (∀ {α : Type} {β : Type} {f : α → List β}, List.flatMap f [] = []) ∧
  (∀ {α : Type} (xs : List α), xs ++ [] = xs) ∧
  (∀ {α : Type} {a : α} {xs : List α} {i : Nat}, List.take (i + 1) (a :: xs) = a :: List.take i xs) ∧
  (∀ {α : Type} {l : List α}, List.take 0 l = []) ∧
  (∀ {α : Type} {l : List α}, List.drop 0 l = l) ∧
  (∀ {α : Type} {a : α} {l : List α} {i : Nat}, List.drop (i + 1) (a :: l) = List.drop i l) ∧
  (∀ {α : Type} {β : Type} (a : α) (f : α → Option β), Option.bind (some a) f = f a) ∧
  (∀ {α β : Type} (f : α → β), List.map f [] = []) ∧
  (∀ {α β : Type} (f : α → β) (a : α) (l : List α), List.map f (a :: l) = f a :: List.map f l) ∧
  (∀ {α β : Type} (f : α → β), Option.map f none = none) ∧
  (∀ {α β : Type} (f : α → β) (a : α), Option.map f (some a) = some (f a)) ∧
  (∀ {α : Type} (p : α → Bool), List.all [] p = true) ∧
  (∀ {α : Type} (p : α → Bool) (a : α) (l : List α), List.all (a :: l) p = (p a && List.all l p)) ∧
  (∀ b : Bool, (b && true) = b) ∧ (∀ b : Bool, (true && b) = b) ∧ ((!true) = false) ∧ ((!false) = true) ∧
  (∀ p : Prop, (True → p) = p) ∧ (∀ p : Prop, (False → p) = True) ∧
  (∀ b : Bool, (b || false) = b) ∧ (∀ b : Bool, (false || b) = b) ∧ (∀ b : Bool, (true || b) = true) ∧ (∀ b : Bool, (false && b) = false) ∧ (∀ b : Bool, (b && false) = false) ∧
  (∀ (α : Type) (a : α), (a = a) = True) ∧ (∀ (x y : Int) (k : IntKind), (Value.int k x = Value.int k y) = (x = y)) ∧ (∀ x y : Bool, (Value.bool x = Value.bool y) = (x = y)) ∧ (∀ x y : ByteArray, (Value.string x = Value.string y) = (x = y)) ∧ (decide True = true) ∧ (decide False = false) ∧ (∀ p : Prop, (p ∨ True) = True) ∧ (∀ p : Prop, (True ∨ p) = True) ∧ (∀ p : Prop, (p ∨ False) = p) ∧ (∀ p : Prop, (False ∨ p) = p) ∧ (∀ (α : Sort 1) , (α → True) = True) ∧ (∀ (α : Type) (a : α), Option.isSome (some a) = true) :=
  ⟨@true_and, @and_true, @and_false, @false_and, @decide_eq_true_eq, @decide_eq_false_iff_not, @List.cons_append, @List.nil_append, @Bool.false_eq_true, @Bool.true_eq_false, @Array.empty_append, @Array.append_empty, @List.length_cons, @List.length_nil, @List.getElem?_cons_succ, @List.getElem?_cons_zero, @Option.some.injEq, @Int.toNat_natCast, @List.toList_toArray, @List.flatMap_cons, @List.flatMap_nil, @List.append_nil, @List.take_succ_cons, @List.take_zero, @List.drop_zero, @List.drop_succ_cons, @Option.bind_some,
   @List.map_nil, @List.map_cons, @Option.map_none, fun _ _ => rfl, @List.all_nil, fun _ _ _ => rfl, @Bool.and_true, @Bool.true_and, rfl, rfl, @true_implies, @false_implies, @Bool.or_false, @Bool.false_or, @Bool.true_or, @Bool.false_and, @Bool.and_false, fun _ _ => eq_self _, fun x y k => by simp, fun x y => by simp, fun x y => by simp, rfl, rfl, @or_true, @true_or, @or_false, @false_or, fun _ => by simp, fun _ _ => rfl⟩
theorem wrap_id {n : Int} (h : -9223372036854775808 ≤ n) (h' : n ≤ 9223372036854775807) : IntKind.i64.wrap n = n := IntWalk.i64_in n (by omega)
theorem follows_mixed : Tryd.prog.follows .mixedOrders = true := by kernel_rfl
theorem rngs : List.range 0 = [] ∧
  List.range 1 = [0] ∧
  List.range 2 = [0, 1] ∧
  List.range 3 = [0, 1, 2] ∧
  List.range 4 = [0, 1, 2, 3] ∧
  List.range 5 = [0, 1, 2, 3, 4] ∧
  List.range 6 = [0, 1, 2, 3, 4, 5] ∧
  List.range 7 = [0, 1, 2, 3, 4, 5, 6] ∧
  List.range 8 = [0, 1, 2, 3, 4, 5, 6, 7] ∧
  List.range 9 = [0, 1, 2, 3, 4, 5, 6, 7, 8] ∧
  List.range 10 = [0, 1, 2, 3, 4, 5, 6, 7, 8, 9] ∧
  List.range 11 = [0, 1, 2, 3, 4, 5, 6, 7, 8, 9, 10] ∧
  List.range 12 = [0, 1, 2, 3, 4, 5, 6, 7, 8, 9, 10, 11] ∧
  List.range 13 = [0, 1, 2, 3, 4, 5, 6, 7, 8, 9, 10, 11, 12] ∧
  List.range 14 = [0, 1, 2, 3, 4, 5, 6, 7, 8, 9, 10, 11, 12, 13] ∧
  List.range 15 = [0, 1, 2, 3, 4, 5, 6, 7, 8, 9, 10, 11, 12, 13, 14] ∧
  List.range 16 = [0, 1, 2, 3, 4, 5, 6, 7, 8, 9, 10, 11, 12, 13, 14, 15] ∧
  List.range 17 = [0, 1, 2, 3, 4, 5, 6, 7, 8, 9, 10, 11, 12, 13, 14, 15, 16] ∧
  List.range 18 = [0, 1, 2, 3, 4, 5, 6, 7, 8, 9, 10, 11, 12, 13, 14, 15, 16, 17] ∧
  List.range 19 = [0, 1, 2, 3, 4, 5, 6, 7, 8, 9, 10, 11, 12, 13, 14, 15, 16, 17, 18] ∧
  List.range 20 = [0, 1, 2, 3, 4, 5, 6, 7, 8, 9, 10, 11, 12, 13, 14, 15, 16, 17, 18, 19] ∧
  (∀ (α : Type) (a : α), List.replicate 0 a = []) ∧
  (∀ (α : Type) (a : α), List.replicate 1 a = [a]) ∧
  (∀ (α : Type) (a : α), List.replicate 2 a = [a, a]) ∧
  (∀ (α : Type) (a : α), List.replicate 3 a = [a, a, a]) ∧
  (∀ (α : Type) (a : α), List.replicate 4 a = [a, a, a, a]) ∧
  (∀ (α : Type) (a : α), List.replicate 5 a = [a, a, a, a, a]) ∧
  (∀ (α : Type) (a : α), List.replicate 6 a = [a, a, a, a, a, a]) ∧
  (∀ (α : Type) (a : α), List.replicate 7 a = [a, a, a, a, a, a, a]) ∧
  (∀ (α : Type) (a : α), List.replicate 8 a = [a, a, a, a, a, a, a, a]) ∧
  (∀ (α : Type) (a : α), List.replicate 9 a = [a, a, a, a, a, a, a, a, a]) ∧
  (∀ (α : Type) (a : α), List.replicate 10 a = [a, a, a, a, a, a, a, a, a, a]) ∧
  (∀ (α : Type) (a : α), List.replicate 11 a = [a, a, a, a, a, a, a, a, a, a, a]) ∧
  (∀ (α : Type) (a : α), List.replicate 12 a = [a, a, a, a, a, a, a, a, a, a, a, a]) ∧
  (∀ (α : Type) (a : α), List.replicate 13 a = [a, a, a, a, a, a, a, a, a, a, a, a, a]) ∧
  (∀ (α : Type) (a : α), List.replicate 14 a = [a, a, a, a, a, a, a, a, a, a, a, a, a, a]) ∧
  (∀ (α : Type) (a : α), List.replicate 15 a = [a, a, a, a, a, a, a, a, a, a, a, a, a, a, a]) ∧
  (∀ (α : Type) (a : α), List.replicate 16 a = [a, a, a, a, a, a, a, a, a, a, a, a, a, a, a, a]) ∧
  (∀ (α : Type) (a : α), List.replicate 17 a = [a, a, a, a, a, a, a, a, a, a, a, a, a, a, a, a, a]) ∧
  (∀ (α : Type) (a : α), List.replicate 18 a = [a, a, a, a, a, a, a, a, a, a, a, a, a, a, a, a, a, a]) ∧
  (∀ (α : Type) (a : α), List.replicate 19 a = [a, a, a, a, a, a, a, a, a, a, a, a, a, a, a, a, a, a, a]) ∧
  (∀ (α : Type) (a : α), List.replicate 20 a = [a, a, a, a, a, a, a, a, a, a, a, a, a, a, a, a, a, a, a, a]) ∧
  (∀ (α : Type) (a : List α) (l : List (List α)), (a :: l).flatten = a ++ l.flatten) ∧
  (∀ α : Type, ([] : List (List α)).flatten = []) :=
  ⟨rfl, rfl, rfl, rfl, rfl, rfl, rfl, rfl, rfl, rfl, rfl, rfl, rfl, rfl, rfl, rfl, rfl, rfl, rfl, rfl, rfl, fun _ _ => rfl, fun _ _ => rfl, fun _ _ => rfl, fun _ _ => rfl, fun _ _ => rfl, fun _ _ => rfl, fun _ _ => rfl, fun _ _ => rfl, fun _ _ => rfl, fun _ _ => rfl, fun _ _ => rfl, fun _ _ => rfl, fun _ _ => rfl, fun _ _ => rfl, fun _ _ => rfl, fun _ _ => rfl, fun _ _ => rfl, fun _ _ => rfl, fun _ _ => rfl, fun _ _ => rfl, fun _ _ => rfl, fun _ _ _ => rfl, fun _ => rfl⟩
end Go.Proofs.YtlbbflchkkcdhaaDoor
