/-
  The facts of the types.
  Conditions: none.
-/
import Derived.Test.YtklligemdfnimaaAEqs
import Derived.Test.YtklligemdfnimaaProg
import Derived.KernelRfl
set_option linter.unusedVariables false
set_option linter.unusedSimpArgs false
namespace Go.Proofs.Ytklligemdfnimaa
open Go Go.Vc
theorem ts1 : tyS Try.prog 1 = .one := by kernel_rfl
theorem ts2 : tyS Try.prog 2 = .one := by kernel_rfl
theorem zc2 : zeroC Try.prog 2 = some [.int .i64 0] := by kernel_rfl
theorem ts3 : tyS Try.prog 3 = .one := by kernel_rfl
theorem zc3 : zeroC Try.prog 3 = some [.int .i64 0] := by kernel_rfl
theorem ts4 : tyS Try.prog 4 = .one := by kernel_rfl
theorem ub4 : Try.prog.underlying 4 = some .bool := by kernel_rfl
theorem zc4 : zeroC Try.prog 4 = some [.bool false] := by kernel_rfl
theorem ts5 : tyS Try.prog 5 = .one := by kernel_rfl
theorem zc5 : zeroC Try.prog 5 = some [.int .u8 0] := by kernel_rfl
theorem ts9 : tyS Try.prog 9 = .one := by kernel_rfl
theorem lk9 : lenK Try.prog 9 = 2 := by kernel_rfl
theorem zc9 : zeroC Try.prog 9 = some [.string ByteArray.empty] := by kernel_rfl
theorem ts12 : tyS Try.prog 12 = .one := by kernel_rfl
theorem zc12 : zeroC Try.prog 12 = some [.int .u64 0] := by kernel_rfl
theorem ts13 : tyS Try.prog 13 = .agg 2 := by kernel_rfl
theorem fo13_0 : fieldOff Try.prog 13 0 = some 0 := by kernel_rfl
theorem fo13_1 : fieldOff Try.prog 13 1 = some 1 := by kernel_rfl
theorem pl13 : placesS Try.prog 13 = some [(0, 1), (1, 1)] := by kernel_rfl
theorem zc13 : zeroC Try.prog 13 = some [.string ByteArray.empty, .int .u64 0] := by kernel_rfl
theorem ts21 : tyS Try.prog 21 = .one := by kernel_rfl
theorem zc21 : zeroC Try.prog 21 = some [.int .i32 0] := by kernel_rfl
theorem ts22 : tyS Try.prog 22 = .one := by kernel_rfl
theorem ts23 : tyS Try.prog 23 = .one := by kernel_rfl
theorem ts24 : tyS Try.prog 24 = .agg 2 := by kernel_rfl
theorem fo24_0 : fieldOff Try.prog 24 0 = some 0 := by kernel_rfl
theorem fo24_1 : fieldOff Try.prog 24 1 = some 1 := by kernel_rfl
theorem pl24 : placesS Try.prog 24 = some [(0, 1), (1, 1)] := by kernel_rfl
theorem zc24 : zeroC Try.prog 24 = some [.int .i64 0, .string ByteArray.empty] := by kernel_rfl
theorem ts25 : tyS Try.prog 25 = .agg 2 := by kernel_rfl
theorem fo25_0 : fieldOff Try.prog 25 0 = some 0 := by kernel_rfl
theorem fo25_1 : fieldOff Try.prog 25 1 = some 1 := by kernel_rfl
theorem pl25 : placesS Try.prog 25 = some [(0, 1), (1, 1)] := by kernel_rfl
theorem zc25 : zeroC Try.prog 25 = some [.int .i64 0, .string ByteArray.empty] := by kernel_rfl
theorem ts26 : tyS Try.prog 26 = .one := by kernel_rfl
theorem es26 : elemS Try.prog 26 = some (135, 1, 24) := by kernel_rfl
theorem lk26 : lenK Try.prog 26 = 1 := by kernel_rfl
theorem zo26 : zeroOk Try.prog 26 = true := by kernel_rfl
theorem zc26 : zeroC Try.prog 26 = some [.slice none 0 0] := by kernel_rfl
theorem ts27 : tyS Try.prog 27 = .agg 5 := by kernel_rfl
theorem fo27_0 : fieldOff Try.prog 27 0 = some 0 := by kernel_rfl
theorem fo27_1 : fieldOff Try.prog 27 1 = some 2 := by kernel_rfl
theorem fo27_2 : fieldOff Try.prog 27 2 = some 3 := by kernel_rfl
theorem fo27_3 : fieldOff Try.prog 27 3 = some 4 := by kernel_rfl
theorem pl27 : placesS Try.prog 27 = some [(0, 2), (2, 1), (3, 1), (4, 1)] := by kernel_rfl
theorem zc27 : zeroC Try.prog 27 = some [.int .i64 0, .string ByteArray.empty, .int .i64 0, .slice none 0 0, .int .i64 0] := by kernel_rfl
theorem ts28 : tyS Try.prog 28 = .agg 5 := by kernel_rfl
theorem fo28_0 : fieldOff Try.prog 28 0 = some 0 := by kernel_rfl
theorem fo28_1 : fieldOff Try.prog 28 1 = some 2 := by kernel_rfl
theorem fo28_2 : fieldOff Try.prog 28 2 = some 3 := by kernel_rfl
theorem fo28_3 : fieldOff Try.prog 28 3 = some 4 := by kernel_rfl
theorem pl28 : placesS Try.prog 28 = some [(0, 2), (2, 1), (3, 1), (4, 1)] := by kernel_rfl
theorem zc28 : zeroC Try.prog 28 = some [.int .i64 0, .string ByteArray.empty, .int .i64 0, .slice none 0 0, .int .i64 0] := by kernel_rfl
theorem ts29 : tyS Try.prog 29 = .one := by kernel_rfl
theorem ts30 : tyS Try.prog 30 = .one := by kernel_rfl
theorem ts31 : tyS Try.prog 31 = .agg 2 := by kernel_rfl
theorem fo31_0 : fieldOff Try.prog 31 0 = some 0 := by kernel_rfl
theorem fo31_1 : fieldOff Try.prog 31 1 = some 1 := by kernel_rfl
theorem pl31 : placesS Try.prog 31 = some [(0, 1), (1, 1)] := by kernel_rfl
theorem zc31 : zeroC Try.prog 31 = some [.int .i64 0, .string ByteArray.empty] := by kernel_rfl
theorem ts32 : tyS Try.prog 32 = .one := by kernel_rfl
theorem es32 : elemS Try.prog 32 = some (137, 1, 24) := by kernel_rfl
theorem lk32 : lenK Try.prog 32 = 1 := by kernel_rfl
theorem zo32 : zeroOk Try.prog 32 = true := by kernel_rfl
theorem zc32 : zeroC Try.prog 32 = some [.slice none 0 0] := by kernel_rfl
theorem ts33 : tyS Try.prog 33 = .agg 5 := by kernel_rfl
theorem fo33_0 : fieldOff Try.prog 33 0 = some 0 := by kernel_rfl
theorem fo33_1 : fieldOff Try.prog 33 1 = some 2 := by kernel_rfl
theorem fo33_2 : fieldOff Try.prog 33 2 = some 3 := by kernel_rfl
theorem fo33_3 : fieldOff Try.prog 33 3 = some 4 := by kernel_rfl
theorem pl33 : placesS Try.prog 33 = some [(0, 2), (2, 1), (3, 1), (4, 1)] := by kernel_rfl
theorem zc33 : zeroC Try.prog 33 = some [.int .i64 0, .string ByteArray.empty, .int .i64 0, .slice none 0 0, .int .i64 0] := by kernel_rfl
theorem ts34 : tyS Try.prog 34 = .agg 5 := by kernel_rfl
theorem fo34_0 : fieldOff Try.prog 34 0 = some 0 := by kernel_rfl
theorem fo34_1 : fieldOff Try.prog 34 1 = some 2 := by kernel_rfl
theorem fo34_2 : fieldOff Try.prog 34 2 = some 3 := by kernel_rfl
theorem fo34_3 : fieldOff Try.prog 34 3 = some 4 := by kernel_rfl
theorem pl34 : placesS Try.prog 34 = some [(0, 2), (2, 1), (3, 1), (4, 1)] := by kernel_rfl
theorem zc34 : zeroC Try.prog 34 = some [.int .i64 0, .string ByteArray.empty, .int .i64 0, .slice none 0 0, .int .i64 0] := by kernel_rfl
theorem ts35 : tyS Try.prog 35 = .one := by kernel_rfl
theorem ts36 : tyS Try.prog 36 = .one := by kernel_rfl
theorem ts37 : tyS Try.prog 37 = .one := by kernel_rfl
theorem es37 : elemS Try.prog 37 = some (5, 1, 1) := by kernel_rfl
theorem lk37 : lenK Try.prog 37 = 1 := by kernel_rfl
theorem zo37 : zeroOk Try.prog 37 = true := by kernel_rfl
theorem zc37 : zeroC Try.prog 37 = some [.slice none 0 0] := by kernel_rfl
theorem ts38 : tyS Try.prog 38 = .one := by kernel_rfl
theorem ts39 : tyS Try.prog 39 = .agg 3 := by kernel_rfl
theorem fo39_0 : fieldOff Try.prog 39 0 = some 0 := by kernel_rfl
theorem fo39_1 : fieldOff Try.prog 39 1 = some 1 := by kernel_rfl
theorem fo39_2 : fieldOff Try.prog 39 2 = some 2 := by kernel_rfl
theorem pl39 : placesS Try.prog 39 = some [(0, 1), (1, 1), (2, 1)] := by kernel_rfl
theorem zc39 : zeroC Try.prog 39 = some [.int .i64 0, .int .i64 0, .string ByteArray.empty] := by kernel_rfl
theorem ts40 : tyS Try.prog 40 = .agg 3 := by kernel_rfl
theorem fo40_0 : fieldOff Try.prog 40 0 = some 0 := by kernel_rfl
theorem fo40_1 : fieldOff Try.prog 40 1 = some 1 := by kernel_rfl
theorem fo40_2 : fieldOff Try.prog 40 2 = some 2 := by kernel_rfl
theorem pl40 : placesS Try.prog 40 = some [(0, 1), (1, 1), (2, 1)] := by kernel_rfl
theorem zc40 : zeroC Try.prog 40 = some [.int .i64 0, .int .i64 0, .string ByteArray.empty] := by kernel_rfl
theorem ts42 : tyS Try.prog 42 = .one := by kernel_rfl
theorem ts44 : tyS Try.prog 44 = .one := by kernel_rfl
theorem ts45 : tyS Try.prog 45 = .one := by kernel_rfl
theorem ts46 : tyS Try.prog 46 = .agg 3 := by kernel_rfl
theorem fo46_0 : fieldOff Try.prog 46 0 = some 0 := by kernel_rfl
theorem fo46_1 : fieldOff Try.prog 46 1 = some 1 := by kernel_rfl
theorem fo46_2 : fieldOff Try.prog 46 2 = some 2 := by kernel_rfl
theorem pl46 : placesS Try.prog 46 = some [(0, 1), (1, 1), (2, 1)] := by kernel_rfl
theorem zc46 : zeroC Try.prog 46 = some [.int .i64 0, .int .i64 0, .string ByteArray.empty] := by kernel_rfl
theorem ts47 : tyS Try.prog 47 = .one := by kernel_rfl
theorem es47 : elemS Try.prog 47 = some (50, 10, 120) := by kernel_rfl
theorem lk47 : lenK Try.prog 47 = 1 := by kernel_rfl
theorem zo47 : zeroOk Try.prog 47 = true := by kernel_rfl
theorem zc47 : zeroC Try.prog 47 = some [.slice none 0 0] := by kernel_rfl
theorem ts48 : tyS Try.prog 48 = .one := by kernel_rfl
theorem es48 : elemS Try.prog 48 = some (69, 8, 160) := by kernel_rfl
theorem lk48 : lenK Try.prog 48 = 1 := by kernel_rfl
theorem zo48 : zeroOk Try.prog 48 = true := by kernel_rfl
theorem zc48 : zeroC Try.prog 48 = some [.slice none 0 0] := by kernel_rfl
theorem ts49 : tyS Try.prog 49 = .agg 10 := by kernel_rfl
theorem fo49_0 : fieldOff Try.prog 49 0 = some 0 := by kernel_rfl
theorem fo49_1 : fieldOff Try.prog 49 1 = some 1 := by kernel_rfl
theorem fo49_2 : fieldOff Try.prog 49 2 = some 2 := by kernel_rfl
theorem fo49_3 : fieldOff Try.prog 49 3 = some 3 := by kernel_rfl
theorem fo49_4 : fieldOff Try.prog 49 4 = some 6 := by kernel_rfl
theorem fo49_5 : fieldOff Try.prog 49 5 = some 7 := by kernel_rfl
theorem fo49_6 : fieldOff Try.prog 49 6 = some 8 := by kernel_rfl
theorem fo49_7 : fieldOff Try.prog 49 7 = some 9 := by kernel_rfl
theorem pl49 : placesS Try.prog 49 = some [(0, 1), (1, 1), (2, 1), (3, 3), (6, 1), (7, 1), (8, 1), (9, 1)] := by kernel_rfl
theorem zc49 : zeroC Try.prog 49 = some [.int .i64 0, .int .i64 0, .bool false, .int .i64 0, .int .i64 0, .string ByteArray.empty, .int .i64 0, .int .i64 0, .slice none 0 0, .slice none 0 0] := by kernel_rfl
theorem ts50 : tyS Try.prog 50 = .agg 10 := by kernel_rfl
theorem fo50_0 : fieldOff Try.prog 50 0 = some 0 := by kernel_rfl
theorem fo50_1 : fieldOff Try.prog 50 1 = some 1 := by kernel_rfl
theorem fo50_2 : fieldOff Try.prog 50 2 = some 2 := by kernel_rfl
theorem fo50_3 : fieldOff Try.prog 50 3 = some 3 := by kernel_rfl
theorem fo50_4 : fieldOff Try.prog 50 4 = some 6 := by kernel_rfl
theorem fo50_5 : fieldOff Try.prog 50 5 = some 7 := by kernel_rfl
theorem fo50_6 : fieldOff Try.prog 50 6 = some 8 := by kernel_rfl
theorem fo50_7 : fieldOff Try.prog 50 7 = some 9 := by kernel_rfl
theorem pl50 : placesS Try.prog 50 = some [(0, 1), (1, 1), (2, 1), (3, 3), (6, 1), (7, 1), (8, 1), (9, 1)] := by kernel_rfl
theorem zc50 : zeroC Try.prog 50 = some [.int .i64 0, .int .i64 0, .bool false, .int .i64 0, .int .i64 0, .string ByteArray.empty, .int .i64 0, .int .i64 0, .slice none 0 0, .slice none 0 0] := by kernel_rfl
theorem ts51 : tyS Try.prog 51 = .one := by kernel_rfl
theorem ts52 : tyS Try.prog 52 = .one := by kernel_rfl
theorem ts53 : tyS Try.prog 53 = .one := by kernel_rfl
theorem es53 : elemS Try.prog 53 = some (56, 10, 120) := by kernel_rfl
theorem lk53 : lenK Try.prog 53 = 1 := by kernel_rfl
theorem zo53 : zeroOk Try.prog 53 = true := by kernel_rfl
theorem zc53 : zeroC Try.prog 53 = some [.slice none 0 0] := by kernel_rfl
theorem ts54 : tyS Try.prog 54 = .one := by kernel_rfl
theorem es54 : elemS Try.prog 54 = some (74, 8, 160) := by kernel_rfl
theorem lk54 : lenK Try.prog 54 = 1 := by kernel_rfl
theorem zo54 : zeroOk Try.prog 54 = true := by kernel_rfl
theorem zc54 : zeroC Try.prog 54 = some [.slice none 0 0] := by kernel_rfl
theorem ts55 : tyS Try.prog 55 = .agg 10 := by kernel_rfl
theorem fo55_0 : fieldOff Try.prog 55 0 = some 0 := by kernel_rfl
theorem fo55_1 : fieldOff Try.prog 55 1 = some 1 := by kernel_rfl
theorem fo55_2 : fieldOff Try.prog 55 2 = some 2 := by kernel_rfl
theorem fo55_3 : fieldOff Try.prog 55 3 = some 3 := by kernel_rfl
theorem fo55_4 : fieldOff Try.prog 55 4 = some 6 := by kernel_rfl
theorem fo55_5 : fieldOff Try.prog 55 5 = some 7 := by kernel_rfl
theorem fo55_6 : fieldOff Try.prog 55 6 = some 8 := by kernel_rfl
theorem fo55_7 : fieldOff Try.prog 55 7 = some 9 := by kernel_rfl
theorem pl55 : placesS Try.prog 55 = some [(0, 1), (1, 1), (2, 1), (3, 3), (6, 1), (7, 1), (8, 1), (9, 1)] := by kernel_rfl
theorem zc55 : zeroC Try.prog 55 = some [.int .i64 0, .int .i64 0, .bool false, .int .i64 0, .int .i64 0, .string ByteArray.empty, .int .i64 0, .int .i64 0, .slice none 0 0, .slice none 0 0] := by kernel_rfl
theorem ts56 : tyS Try.prog 56 = .agg 10 := by kernel_rfl
theorem fo56_0 : fieldOff Try.prog 56 0 = some 0 := by kernel_rfl
theorem fo56_1 : fieldOff Try.prog 56 1 = some 1 := by kernel_rfl
theorem fo56_2 : fieldOff Try.prog 56 2 = some 2 := by kernel_rfl
theorem fo56_3 : fieldOff Try.prog 56 3 = some 3 := by kernel_rfl
theorem fo56_4 : fieldOff Try.prog 56 4 = some 6 := by kernel_rfl
theorem fo56_5 : fieldOff Try.prog 56 5 = some 7 := by kernel_rfl
theorem fo56_6 : fieldOff Try.prog 56 6 = some 8 := by kernel_rfl
theorem fo56_7 : fieldOff Try.prog 56 7 = some 9 := by kernel_rfl
theorem pl56 : placesS Try.prog 56 = some [(0, 1), (1, 1), (2, 1), (3, 3), (6, 1), (7, 1), (8, 1), (9, 1)] := by kernel_rfl
theorem zc56 : zeroC Try.prog 56 = some [.int .i64 0, .int .i64 0, .bool false, .int .i64 0, .int .i64 0, .string ByteArray.empty, .int .i64 0, .int .i64 0, .slice none 0 0, .slice none 0 0] := by kernel_rfl
theorem ts57 : tyS Try.prog 57 = .one := by kernel_rfl
theorem ts58 : tyS Try.prog 58 = .one := by kernel_rfl
theorem ts59 : tyS Try.prog 59 = .one := by kernel_rfl
theorem ts60 : tyS Try.prog 60 = .one := by kernel_rfl
theorem ts61 : tyS Try.prog 61 = .one := by kernel_rfl
theorem ts62 : tyS Try.prog 62 = .one := by kernel_rfl
theorem ts63 : tyS Try.prog 63 = .one := by kernel_rfl
theorem ts64 : tyS Try.prog 64 = .one := by kernel_rfl
theorem es64 : elemS Try.prog 64 = some (3, 1, 8) := by kernel_rfl
theorem lk64 : lenK Try.prog 64 = 1 := by kernel_rfl
theorem zo64 : zeroOk Try.prog 64 = true := by kernel_rfl
theorem zc64 : zeroC Try.prog 64 = some [.slice none 0 0] := by kernel_rfl
theorem ts65 : tyS Try.prog 65 = .one := by kernel_rfl
theorem es65 : elemS Try.prog 65 = some (47, 1, 24) := by kernel_rfl
theorem lk65 : lenK Try.prog 65 = 1 := by kernel_rfl
theorem zo65 : zeroOk Try.prog 65 = true := by kernel_rfl
theorem zc65 : zeroC Try.prog 65 = some [.slice none 0 0] := by kernel_rfl
theorem ts66 : tyS Try.prog 66 = .one := by kernel_rfl
theorem es66 : elemS Try.prog 66 = some (163, 11, 128) := by kernel_rfl
theorem lk66 : lenK Try.prog 66 = 1 := by kernel_rfl
theorem zo66 : zeroOk Try.prog 66 = true := by kernel_rfl
theorem zc66 : zeroC Try.prog 66 = some [.slice none 0 0] := by kernel_rfl
theorem ts67 : tyS Try.prog 67 = .one := by kernel_rfl
theorem es67 : elemS Try.prog 67 = some (9, 1, 16) := by kernel_rfl
theorem lk67 : lenK Try.prog 67 = 1 := by kernel_rfl
theorem zo67 : zeroOk Try.prog 67 = true := by kernel_rfl
theorem zc67 : zeroC Try.prog 67 = some [.slice none 0 0] := by kernel_rfl
theorem ts68 : tyS Try.prog 68 = .agg 8 := by kernel_rfl
theorem fo68_0 : fieldOff Try.prog 68 0 = some 0 := by kernel_rfl
theorem fo68_1 : fieldOff Try.prog 68 1 = some 1 := by kernel_rfl
theorem fo68_2 : fieldOff Try.prog 68 2 = some 2 := by kernel_rfl
theorem fo68_3 : fieldOff Try.prog 68 3 = some 3 := by kernel_rfl
theorem fo68_4 : fieldOff Try.prog 68 4 = some 4 := by kernel_rfl
theorem fo68_5 : fieldOff Try.prog 68 5 = some 5 := by kernel_rfl
theorem fo68_6 : fieldOff Try.prog 68 6 = some 6 := by kernel_rfl
theorem fo68_7 : fieldOff Try.prog 68 7 = some 7 := by kernel_rfl
theorem pl68 : placesS Try.prog 68 = some [(0, 1), (1, 1), (2, 1), (3, 1), (4, 1), (5, 1), (6, 1), (7, 1)] := by kernel_rfl
theorem zc68 : zeroC Try.prog 68 = some [.slice none 0 0, .slice none 0 0, .slice none 0 0, .slice none 0 0, .slice none 0 0, .slice none 0 0, .bool false, .int .i64 0] := by kernel_rfl
theorem ts69 : tyS Try.prog 69 = .agg 8 := by kernel_rfl
theorem fo69_0 : fieldOff Try.prog 69 0 = some 0 := by kernel_rfl
theorem fo69_1 : fieldOff Try.prog 69 1 = some 1 := by kernel_rfl
theorem fo69_2 : fieldOff Try.prog 69 2 = some 2 := by kernel_rfl
theorem fo69_3 : fieldOff Try.prog 69 3 = some 3 := by kernel_rfl
theorem fo69_4 : fieldOff Try.prog 69 4 = some 4 := by kernel_rfl
theorem fo69_5 : fieldOff Try.prog 69 5 = some 5 := by kernel_rfl
theorem fo69_6 : fieldOff Try.prog 69 6 = some 6 := by kernel_rfl
theorem fo69_7 : fieldOff Try.prog 69 7 = some 7 := by kernel_rfl
theorem pl69 : placesS Try.prog 69 = some [(0, 1), (1, 1), (2, 1), (3, 1), (4, 1), (5, 1), (6, 1), (7, 1)] := by kernel_rfl
theorem zc69 : zeroC Try.prog 69 = some [.slice none 0 0, .slice none 0 0, .slice none 0 0, .slice none 0 0, .slice none 0 0, .slice none 0 0, .bool false, .int .i64 0] := by kernel_rfl
theorem ts70 : tyS Try.prog 70 = .one := by kernel_rfl
theorem ts71 : tyS Try.prog 71 = .one := by kernel_rfl
theorem es71 : elemS Try.prog 71 = some (53, 1, 24) := by kernel_rfl
theorem lk71 : lenK Try.prog 71 = 1 := by kernel_rfl
theorem zo71 : zeroOk Try.prog 71 = true := by kernel_rfl
theorem zc71 : zeroC Try.prog 71 = some [.slice none 0 0] := by kernel_rfl
theorem ts72 : tyS Try.prog 72 = .one := by kernel_rfl
theorem es72 : elemS Try.prog 72 = some (122, 11, 128) := by kernel_rfl
theorem lk72 : lenK Try.prog 72 = 1 := by kernel_rfl
theorem zo72 : zeroOk Try.prog 72 = true := by kernel_rfl
theorem zc72 : zeroC Try.prog 72 = some [.slice none 0 0] := by kernel_rfl
theorem ts73 : tyS Try.prog 73 = .agg 8 := by kernel_rfl
theorem fo73_0 : fieldOff Try.prog 73 0 = some 0 := by kernel_rfl
theorem fo73_1 : fieldOff Try.prog 73 1 = some 1 := by kernel_rfl
theorem fo73_2 : fieldOff Try.prog 73 2 = some 2 := by kernel_rfl
theorem fo73_3 : fieldOff Try.prog 73 3 = some 3 := by kernel_rfl
theorem fo73_4 : fieldOff Try.prog 73 4 = some 4 := by kernel_rfl
theorem fo73_5 : fieldOff Try.prog 73 5 = some 5 := by kernel_rfl
theorem fo73_6 : fieldOff Try.prog 73 6 = some 6 := by kernel_rfl
theorem fo73_7 : fieldOff Try.prog 73 7 = some 7 := by kernel_rfl
theorem pl73 : placesS Try.prog 73 = some [(0, 1), (1, 1), (2, 1), (3, 1), (4, 1), (5, 1), (6, 1), (7, 1)] := by kernel_rfl
theorem zc73 : zeroC Try.prog 73 = some [.slice none 0 0, .slice none 0 0, .slice none 0 0, .slice none 0 0, .slice none 0 0, .slice none 0 0, .bool false, .int .i64 0] := by kernel_rfl
theorem ts74 : tyS Try.prog 74 = .agg 8 := by kernel_rfl
theorem fo74_0 : fieldOff Try.prog 74 0 = some 0 := by kernel_rfl
theorem fo74_1 : fieldOff Try.prog 74 1 = some 1 := by kernel_rfl
theorem fo74_2 : fieldOff Try.prog 74 2 = some 2 := by kernel_rfl
theorem fo74_3 : fieldOff Try.prog 74 3 = some 3 := by kernel_rfl
theorem fo74_4 : fieldOff Try.prog 74 4 = some 4 := by kernel_rfl
theorem fo74_5 : fieldOff Try.prog 74 5 = some 5 := by kernel_rfl
theorem fo74_6 : fieldOff Try.prog 74 6 = some 6 := by kernel_rfl
theorem fo74_7 : fieldOff Try.prog 74 7 = some 7 := by kernel_rfl
theorem pl74 : placesS Try.prog 74 = some [(0, 1), (1, 1), (2, 1), (3, 1), (4, 1), (5, 1), (6, 1), (7, 1)] := by kernel_rfl
theorem zc74 : zeroC Try.prog 74 = some [.slice none 0 0, .slice none 0 0, .slice none 0 0, .slice none 0 0, .slice none 0 0, .slice none 0 0, .bool false, .int .i64 0] := by kernel_rfl
theorem ts75 : tyS Try.prog 75 = .one := by kernel_rfl
theorem ts76 : tyS Try.prog 76 = .one := by kernel_rfl
theorem ts77 : tyS Try.prog 77 = .one := by kernel_rfl
theorem ts78 : tyS Try.prog 78 = .one := by kernel_rfl
theorem ts79 : tyS Try.prog 79 = .one := by kernel_rfl
theorem ts80 : tyS Try.prog 80 = .one := by kernel_rfl
theorem ts81 : tyS Try.prog 81 = .one := by kernel_rfl
theorem ts82 : tyS Try.prog 82 = .one := by kernel_rfl
theorem ts83 : tyS Try.prog 83 = .one := by kernel_rfl
theorem ts84 : tyS Try.prog 84 = .one := by kernel_rfl
theorem ts85 : tyS Try.prog 85 = .one := by kernel_rfl
theorem ts86 : tyS Try.prog 86 = .one := by kernel_rfl
theorem ts87 : tyS Try.prog 87 = .one := by kernel_rfl
theorem zc87 : zeroC Try.prog 87 = some [.pointer none] := by kernel_rfl
theorem ts88 : tyS Try.prog 88 = .one := by kernel_rfl
theorem ts89 : tyS Try.prog 89 = .one := by kernel_rfl
theorem ts90 : tyS Try.prog 90 = .one := by kernel_rfl
theorem ts91 : tyS Try.prog 91 = .one := by kernel_rfl
theorem ts92 : tyS Try.prog 92 = .one := by kernel_rfl
theorem ts93 : tyS Try.prog 93 = .one := by kernel_rfl
theorem ts94 : tyS Try.prog 94 = .one := by kernel_rfl
theorem ts95 : tyS Try.prog 95 = .one := by kernel_rfl
theorem ts96 : tyS Try.prog 96 = .one := by kernel_rfl
theorem ts97 : tyS Try.prog 97 = .one := by kernel_rfl
theorem ts98 : tyS Try.prog 98 = .one := by kernel_rfl
theorem ts99 : tyS Try.prog 99 = .one := by kernel_rfl
theorem ts100 : tyS Try.prog 100 = .one := by kernel_rfl
theorem ts101 : tyS Try.prog 101 = .one := by kernel_rfl
theorem ts102 : tyS Try.prog 102 = .one := by kernel_rfl
theorem ts103 : tyS Try.prog 103 = .one := by kernel_rfl
theorem ts104 : tyS Try.prog 104 = .one := by kernel_rfl
theorem ts105 : tyS Try.prog 105 = .one := by kernel_rfl
theorem ts106 : tyS Try.prog 106 = .one := by kernel_rfl
theorem ts107 : tyS Try.prog 107 = .one := by kernel_rfl
theorem ts108 : tyS Try.prog 108 = .one := by kernel_rfl
theorem ts109 : tyS Try.prog 109 = .one := by kernel_rfl
theorem ts110 : tyS Try.prog 110 = .one := by kernel_rfl
theorem ts111 : tyS Try.prog 111 = .one := by kernel_rfl
theorem ts112 : tyS Try.prog 112 = .one := by kernel_rfl
theorem ts113 : tyS Try.prog 113 = .one := by kernel_rfl
theorem ts114 : tyS Try.prog 114 = .one := by kernel_rfl
theorem ts115 : tyS Try.prog 115 = .one := by kernel_rfl
theorem ts116 : tyS Try.prog 116 = .one := by kernel_rfl
theorem ts117 : tyS Try.prog 117 = .one := by kernel_rfl
theorem ts118 : tyS Try.prog 118 = .one := by kernel_rfl
theorem ts119 : tyS Try.prog 119 = .one := by kernel_rfl
theorem ts120 : tyS Try.prog 120 = .one := by kernel_rfl
theorem ts121 : tyS Try.prog 121 = .agg 11 := by kernel_rfl
theorem fo121_0 : fieldOff Try.prog 121 0 = some 0 := by kernel_rfl
theorem fo121_1 : fieldOff Try.prog 121 1 = some 10 := by kernel_rfl
theorem pl121 : placesS Try.prog 121 = some [(0, 10), (10, 1)] := by kernel_rfl
theorem zc121 : zeroC Try.prog 121 = some [.int .i64 0, .int .i64 0, .bool false, .int .i64 0, .int .i64 0, .string ByteArray.empty, .int .i64 0, .int .i64 0, .slice none 0 0, .slice none 0 0, .bool false] := by kernel_rfl
theorem ts122 : tyS Try.prog 122 = .agg 11 := by kernel_rfl
theorem fo122_0 : fieldOff Try.prog 122 0 = some 0 := by kernel_rfl
theorem fo122_1 : fieldOff Try.prog 122 1 = some 10 := by kernel_rfl
theorem pl122 : placesS Try.prog 122 = some [(0, 10), (10, 1)] := by kernel_rfl
theorem zc122 : zeroC Try.prog 122 = some [.int .i64 0, .int .i64 0, .bool false, .int .i64 0, .int .i64 0, .string ByteArray.empty, .int .i64 0, .int .i64 0, .slice none 0 0, .slice none 0 0, .bool false] := by kernel_rfl
theorem ts123 : tyS Try.prog 123 = .one := by kernel_rfl
theorem ts124 : tyS Try.prog 124 = .one := by kernel_rfl
theorem ts125 : tyS Try.prog 125 = .one := by kernel_rfl
theorem ts126 : tyS Try.prog 126 = .one := by kernel_rfl
theorem ts127 : tyS Try.prog 127 = .one := by kernel_rfl
theorem ts128 : tyS Try.prog 128 = .one := by kernel_rfl
theorem ts129 : tyS Try.prog 129 = .one := by kernel_rfl
theorem ts130 : tyS Try.prog 130 = .one := by kernel_rfl
theorem ts131 : tyS Try.prog 131 = .one := by kernel_rfl
theorem ts132 : tyS Try.prog 132 = .one := by kernel_rfl
theorem ts133 : tyS Try.prog 133 = .one := by kernel_rfl
theorem ts134 : tyS Try.prog 134 = .one := by kernel_rfl
theorem ts135 : tyS Try.prog 135 = .one := by kernel_rfl
theorem es135 : elemS Try.prog 135 = some (46, 3, 32) := by kernel_rfl
theorem lk135 : lenK Try.prog 135 = 1 := by kernel_rfl
theorem zo135 : zeroOk Try.prog 135 = true := by kernel_rfl
theorem zc135 : zeroC Try.prog 135 = some [.slice none 0 0] := by kernel_rfl
theorem ts136 : tyS Try.prog 136 = .one := by kernel_rfl
theorem ts137 : tyS Try.prog 137 = .one := by kernel_rfl
theorem es137 : elemS Try.prog 137 = some (40, 3, 32) := by kernel_rfl
theorem lk137 : lenK Try.prog 137 = 1 := by kernel_rfl
theorem zo137 : zeroOk Try.prog 137 = true := by kernel_rfl
theorem zc137 : zeroC Try.prog 137 = some [.slice none 0 0] := by kernel_rfl
theorem ts138 : tyS Try.prog 138 = .one := by kernel_rfl
theorem ts139 : tyS Try.prog 139 = .one := by kernel_rfl
theorem ts140 : tyS Try.prog 140 = .agg 3 := by kernel_rfl
theorem fo140_0 : fieldOff Try.prog 140 0 = some 0 := by kernel_rfl
theorem fo140_1 : fieldOff Try.prog 140 1 = some 1 := by kernel_rfl
theorem fo140_2 : fieldOff Try.prog 140 2 = some 2 := by kernel_rfl
theorem pl140 : placesS Try.prog 140 = some [(0, 1), (1, 1), (2, 1)] := by kernel_rfl
theorem zc140 : zeroC Try.prog 140 = some [.slice none 0 0, .int .i64 0, .int .i64 0] := by kernel_rfl
theorem ts141 : tyS Try.prog 141 = .agg 3 := by kernel_rfl
theorem fo141_0 : fieldOff Try.prog 141 0 = some 0 := by kernel_rfl
theorem fo141_1 : fieldOff Try.prog 141 1 = some 1 := by kernel_rfl
theorem fo141_2 : fieldOff Try.prog 141 2 = some 2 := by kernel_rfl
theorem pl141 : placesS Try.prog 141 = some [(0, 1), (1, 1), (2, 1)] := by kernel_rfl
theorem zc141 : zeroC Try.prog 141 = some [.slice none 0 0, .int .i64 0, .int .i64 0] := by kernel_rfl
theorem ts142 : tyS Try.prog 142 = .one := by kernel_rfl
theorem ts143 : tyS Try.prog 143 = .one := by kernel_rfl
theorem ts145 : tyS Try.prog 145 = .one := by kernel_rfl
theorem ts146 : tyS Try.prog 146 = .one := by kernel_rfl
theorem ts147 : tyS Try.prog 147 = .one := by kernel_rfl
theorem es147 : elemS Try.prog 147 = some (174, 2, 40) := by kernel_rfl
theorem lk147 : lenK Try.prog 147 = 1 := by kernel_rfl
theorem zo147 : zeroOk Try.prog 147 = true := by kernel_rfl
theorem zc147 : zeroC Try.prog 147 = some [.slice none 0 0] := by kernel_rfl
theorem ts148 : tyS Try.prog 148 = .agg 1 := by kernel_rfl
theorem fo148_0 : fieldOff Try.prog 148 0 = some 0 := by kernel_rfl
theorem pl148 : placesS Try.prog 148 = some [(0, 1)] := by kernel_rfl
theorem zc148 : zeroC Try.prog 148 = some [.slice none 0 0] := by kernel_rfl
theorem ts149 : tyS Try.prog 149 = .agg 1 := by kernel_rfl
theorem fo149_0 : fieldOff Try.prog 149 0 = some 0 := by kernel_rfl
theorem pl149 : placesS Try.prog 149 = some [(0, 1)] := by kernel_rfl
theorem zc149 : zeroC Try.prog 149 = some [.slice none 0 0] := by kernel_rfl
theorem ts150 : tyS Try.prog 150 = .one := by kernel_rfl
theorem ts151 : tyS Try.prog 151 = .one := by kernel_rfl
theorem es151 : elemS Try.prog 151 = some (64, 1, 24) := by kernel_rfl
theorem lk151 : lenK Try.prog 151 = 1 := by kernel_rfl
theorem zo151 : zeroOk Try.prog 151 = true := by kernel_rfl
theorem zc151 : zeroC Try.prog 151 = some [.slice none 0 0] := by kernel_rfl
theorem ts152 : tyS Try.prog 152 = .one := by kernel_rfl
theorem ts153 : tyS Try.prog 153 = .one := by kernel_rfl
theorem ts154 : tyS Try.prog 154 = .one := by kernel_rfl
theorem ts155 : tyS Try.prog 155 = .one := by kernel_rfl
theorem ts156 : tyS Try.prog 156 = .one := by kernel_rfl
theorem ts157 : tyS Try.prog 157 = .one := by kernel_rfl
theorem ts158 : tyS Try.prog 158 = .one := by kernel_rfl
theorem ts159 : tyS Try.prog 159 = .one := by kernel_rfl
theorem ts160 : tyS Try.prog 160 = .one := by kernel_rfl
theorem ts161 : tyS Try.prog 161 = .one := by kernel_rfl
theorem ts162 : tyS Try.prog 162 = .agg 11 := by kernel_rfl
theorem fo162_0 : fieldOff Try.prog 162 0 = some 0 := by kernel_rfl
theorem fo162_1 : fieldOff Try.prog 162 1 = some 10 := by kernel_rfl
theorem pl162 : placesS Try.prog 162 = some [(0, 10), (10, 1)] := by kernel_rfl
theorem zc162 : zeroC Try.prog 162 = some [.int .i64 0, .int .i64 0, .bool false, .int .i64 0, .int .i64 0, .string ByteArray.empty, .int .i64 0, .int .i64 0, .slice none 0 0, .slice none 0 0, .bool false] := by kernel_rfl
theorem ts163 : tyS Try.prog 163 = .agg 11 := by kernel_rfl
theorem fo163_0 : fieldOff Try.prog 163 0 = some 0 := by kernel_rfl
theorem fo163_1 : fieldOff Try.prog 163 1 = some 10 := by kernel_rfl
theorem pl163 : placesS Try.prog 163 = some [(0, 10), (10, 1)] := by kernel_rfl
theorem zc163 : zeroC Try.prog 163 = some [.int .i64 0, .int .i64 0, .bool false, .int .i64 0, .int .i64 0, .string ByteArray.empty, .int .i64 0, .int .i64 0, .slice none 0 0, .slice none 0 0, .bool false] := by kernel_rfl
theorem ts164 : tyS Try.prog 164 = .one := by kernel_rfl
theorem ts165 : tyS Try.prog 165 = .one := by kernel_rfl
theorem ts166 : tyS Try.prog 166 = .one := by kernel_rfl
theorem zc166 : zeroC Try.prog 166 = some [.int .u64 0] := by kernel_rfl
theorem ts167 : tyS Try.prog 167 = .one := by kernel_rfl
theorem ts168 : tyS Try.prog 168 = .one := by kernel_rfl
theorem ts169 : tyS Try.prog 169 = .one := by kernel_rfl
theorem ts170 : tyS Try.prog 170 = .one := by kernel_rfl
theorem ts171 : tyS Try.prog 171 = .one := by kernel_rfl
theorem ts172 : tyS Try.prog 172 = .one := by kernel_rfl
theorem es172 : elemS Try.prog 172 = some (176, 2, 24) := by kernel_rfl
theorem lk172 : lenK Try.prog 172 = 1 := by kernel_rfl
theorem zo172 : zeroOk Try.prog 172 = true := by kernel_rfl
theorem zc172 : zeroC Try.prog 172 = some [.slice none 0 0] := by kernel_rfl
theorem ts173 : tyS Try.prog 173 = .agg 2 := by kernel_rfl
theorem fo173_0 : fieldOff Try.prog 173 0 = some 0 := by kernel_rfl
theorem fo173_1 : fieldOff Try.prog 173 1 = some 1 := by kernel_rfl
theorem pl173 : placesS Try.prog 173 = some [(0, 1), (1, 1)] := by kernel_rfl
theorem zc173 : zeroC Try.prog 173 = some [.string ByteArray.empty, .slice none 0 0] := by kernel_rfl
theorem ts174 : tyS Try.prog 174 = .agg 2 := by kernel_rfl
theorem fo174_0 : fieldOff Try.prog 174 0 = some 0 := by kernel_rfl
theorem fo174_1 : fieldOff Try.prog 174 1 = some 1 := by kernel_rfl
theorem pl174 : placesS Try.prog 174 = some [(0, 1), (1, 1)] := by kernel_rfl
theorem zc174 : zeroC Try.prog 174 = some [.string ByteArray.empty, .slice none 0 0] := by kernel_rfl
theorem ts175 : tyS Try.prog 175 = .agg 2 := by kernel_rfl
theorem fo175_0 : fieldOff Try.prog 175 0 = some 0 := by kernel_rfl
theorem fo175_1 : fieldOff Try.prog 175 1 = some 1 := by kernel_rfl
theorem pl175 : placesS Try.prog 175 = some [(0, 1), (1, 1)] := by kernel_rfl
theorem zc175 : zeroC Try.prog 175 = some [.string ByteArray.empty, .int .i64 0] := by kernel_rfl
theorem ts176 : tyS Try.prog 176 = .agg 2 := by kernel_rfl
theorem fo176_0 : fieldOff Try.prog 176 0 = some 0 := by kernel_rfl
theorem fo176_1 : fieldOff Try.prog 176 1 = some 1 := by kernel_rfl
theorem pl176 : placesS Try.prog 176 = some [(0, 1), (1, 1)] := by kernel_rfl
theorem zc176 : zeroC Try.prog 176 = some [.string ByteArray.empty, .int .i64 0] := by kernel_rfl
theorem ts177 : tyS Try.prog 177 = .one := by kernel_rfl
theorem ts178 : tyS Try.prog 178 = .one := by kernel_rfl
theorem ts179 : tyS Try.prog 179 = .one := by kernel_rfl
theorem ts180 : tyS Try.prog 180 = .one := by kernel_rfl
theorem ts182 : tyS Try.prog 182 = .one := by kernel_rfl
theorem ts183 : tyS Try.prog 183 = .one := by kernel_rfl
theorem ts184 : tyS Try.prog 184 = .one := by kernel_rfl
theorem ts185 : tyS Try.prog 185 = .one := by kernel_rfl
theorem ts186 : tyS Try.prog 186 = .one := by kernel_rfl
theorem ts192 : tyS Try.prog 192 = .one := by kernel_rfl
theorem ts193 : tyS Try.prog 193 = .one := by kernel_rfl
theorem zc193 : zeroC Try.prog 193 = some [.int .u32 0] := by kernel_rfl
theorem ts196 : tyS Try.prog 196 = .one := by kernel_rfl
theorem ts197 : tyS Try.prog 197 = .one := by kernel_rfl
theorem zc197 : zeroC Try.prog 197 = some [.pointer none] := by kernel_rfl
theorem ts202 : tyS Try.prog 202 = .one := by kernel_rfl
theorem tb0 : tyS Try.prog 1 = .one ∧
  tyS Try.prog 2 = .one ∧
  zeroC Try.prog 2 = some [.int .i64 0] ∧
  tyS Try.prog 3 = .one ∧
  zeroC Try.prog 3 = some [.int .i64 0] ∧
  tyS Try.prog 4 = .one ∧
  Try.prog.underlying 4 = some .bool ∧
  zeroC Try.prog 4 = some [.bool false] ∧
  tyS Try.prog 5 = .one ∧
  zeroC Try.prog 5 = some [.int .u8 0] ∧
  tyS Try.prog 9 = .one ∧
  lenK Try.prog 9 = 2 ∧
  zeroC Try.prog 9 = some [.string ByteArray.empty] ∧
  tyS Try.prog 12 = .one ∧
  zeroC Try.prog 12 = some [.int .u64 0] ∧
  tyS Try.prog 13 = .agg 2 ∧
  fieldOff Try.prog 13 0 = some 0 ∧
  fieldOff Try.prog 13 1 = some 1 ∧
  placesS Try.prog 13 = some [(0, 1), (1, 1)] ∧
  zeroC Try.prog 13 = some [.string ByteArray.empty, .int .u64 0] ∧
  tyS Try.prog 21 = .one ∧
  zeroC Try.prog 21 = some [.int .i32 0] ∧
  tyS Try.prog 22 = .one ∧
  tyS Try.prog 23 = .one ∧
  tyS Try.prog 24 = .agg 2 :=
  ⟨ts1, ts2, zc2, ts3, zc3, ts4, ub4, zc4, ts5, zc5, ts9, lk9, zc9, ts12, zc12, ts13, fo13_0, fo13_1, pl13, zc13, ts21, zc21, ts22, ts23, ts24⟩
theorem tb1 : fieldOff Try.prog 24 0 = some 0 ∧
  fieldOff Try.prog 24 1 = some 1 ∧
  placesS Try.prog 24 = some [(0, 1), (1, 1)] ∧
  zeroC Try.prog 24 = some [.int .i64 0, .string ByteArray.empty] ∧
  tyS Try.prog 25 = .agg 2 ∧
  fieldOff Try.prog 25 0 = some 0 ∧
  fieldOff Try.prog 25 1 = some 1 ∧
  placesS Try.prog 25 = some [(0, 1), (1, 1)] ∧
  zeroC Try.prog 25 = some [.int .i64 0, .string ByteArray.empty] ∧
  tyS Try.prog 26 = .one ∧
  elemS Try.prog 26 = some (135, 1, 24) ∧
  lenK Try.prog 26 = 1 ∧
  zeroOk Try.prog 26 = true ∧
  zeroC Try.prog 26 = some [.slice none 0 0] ∧
  tyS Try.prog 27 = .agg 5 ∧
  fieldOff Try.prog 27 0 = some 0 ∧
  fieldOff Try.prog 27 1 = some 2 ∧
  fieldOff Try.prog 27 2 = some 3 ∧
  fieldOff Try.prog 27 3 = some 4 ∧
  placesS Try.prog 27 = some [(0, 2), (2, 1), (3, 1), (4, 1)] ∧
  zeroC Try.prog 27 = some [.int .i64 0, .string ByteArray.empty, .int .i64 0, .slice none 0 0, .int .i64 0] ∧
  tyS Try.prog 28 = .agg 5 ∧
  fieldOff Try.prog 28 0 = some 0 ∧
  fieldOff Try.prog 28 1 = some 2 ∧
  fieldOff Try.prog 28 2 = some 3 :=
  ⟨fo24_0, fo24_1, pl24, zc24, ts25, fo25_0, fo25_1, pl25, zc25, ts26, es26, lk26, zo26, zc26, ts27, fo27_0, fo27_1, fo27_2, fo27_3, pl27, zc27, ts28, fo28_0, fo28_1, fo28_2⟩
theorem tb2 : fieldOff Try.prog 28 3 = some 4 ∧
  placesS Try.prog 28 = some [(0, 2), (2, 1), (3, 1), (4, 1)] ∧
  zeroC Try.prog 28 = some [.int .i64 0, .string ByteArray.empty, .int .i64 0, .slice none 0 0, .int .i64 0] ∧
  tyS Try.prog 29 = .one ∧
  tyS Try.prog 30 = .one ∧
  tyS Try.prog 31 = .agg 2 ∧
  fieldOff Try.prog 31 0 = some 0 ∧
  fieldOff Try.prog 31 1 = some 1 ∧
  placesS Try.prog 31 = some [(0, 1), (1, 1)] ∧
  zeroC Try.prog 31 = some [.int .i64 0, .string ByteArray.empty] ∧
  tyS Try.prog 32 = .one ∧
  elemS Try.prog 32 = some (137, 1, 24) ∧
  lenK Try.prog 32 = 1 ∧
  zeroOk Try.prog 32 = true ∧
  zeroC Try.prog 32 = some [.slice none 0 0] ∧
  tyS Try.prog 33 = .agg 5 ∧
  fieldOff Try.prog 33 0 = some 0 ∧
  fieldOff Try.prog 33 1 = some 2 ∧
  fieldOff Try.prog 33 2 = some 3 ∧
  fieldOff Try.prog 33 3 = some 4 ∧
  placesS Try.prog 33 = some [(0, 2), (2, 1), (3, 1), (4, 1)] ∧
  zeroC Try.prog 33 = some [.int .i64 0, .string ByteArray.empty, .int .i64 0, .slice none 0 0, .int .i64 0] ∧
  tyS Try.prog 34 = .agg 5 ∧
  fieldOff Try.prog 34 0 = some 0 ∧
  fieldOff Try.prog 34 1 = some 2 :=
  ⟨fo28_3, pl28, zc28, ts29, ts30, ts31, fo31_0, fo31_1, pl31, zc31, ts32, es32, lk32, zo32, zc32, ts33, fo33_0, fo33_1, fo33_2, fo33_3, pl33, zc33, ts34, fo34_0, fo34_1⟩
theorem tb3 : fieldOff Try.prog 34 2 = some 3 ∧
  fieldOff Try.prog 34 3 = some 4 ∧
  placesS Try.prog 34 = some [(0, 2), (2, 1), (3, 1), (4, 1)] ∧
  zeroC Try.prog 34 = some [.int .i64 0, .string ByteArray.empty, .int .i64 0, .slice none 0 0, .int .i64 0] ∧
  tyS Try.prog 35 = .one ∧
  tyS Try.prog 36 = .one ∧
  tyS Try.prog 37 = .one ∧
  elemS Try.prog 37 = some (5, 1, 1) ∧
  lenK Try.prog 37 = 1 ∧
  zeroOk Try.prog 37 = true ∧
  zeroC Try.prog 37 = some [.slice none 0 0] ∧
  tyS Try.prog 38 = .one ∧
  tyS Try.prog 39 = .agg 3 ∧
  fieldOff Try.prog 39 0 = some 0 ∧
  fieldOff Try.prog 39 1 = some 1 ∧
  fieldOff Try.prog 39 2 = some 2 ∧
  placesS Try.prog 39 = some [(0, 1), (1, 1), (2, 1)] ∧
  zeroC Try.prog 39 = some [.int .i64 0, .int .i64 0, .string ByteArray.empty] ∧
  tyS Try.prog 40 = .agg 3 ∧
  fieldOff Try.prog 40 0 = some 0 ∧
  fieldOff Try.prog 40 1 = some 1 ∧
  fieldOff Try.prog 40 2 = some 2 ∧
  placesS Try.prog 40 = some [(0, 1), (1, 1), (2, 1)] ∧
  zeroC Try.prog 40 = some [.int .i64 0, .int .i64 0, .string ByteArray.empty] ∧
  tyS Try.prog 42 = .one :=
  ⟨fo34_2, fo34_3, pl34, zc34, ts35, ts36, ts37, es37, lk37, zo37, zc37, ts38, ts39, fo39_0, fo39_1, fo39_2, pl39, zc39, ts40, fo40_0, fo40_1, fo40_2, pl40, zc40, ts42⟩
theorem tb4 : tyS Try.prog 44 = .one ∧
  tyS Try.prog 45 = .one ∧
  tyS Try.prog 46 = .agg 3 ∧
  fieldOff Try.prog 46 0 = some 0 ∧
  fieldOff Try.prog 46 1 = some 1 ∧
  fieldOff Try.prog 46 2 = some 2 ∧
  placesS Try.prog 46 = some [(0, 1), (1, 1), (2, 1)] ∧
  zeroC Try.prog 46 = some [.int .i64 0, .int .i64 0, .string ByteArray.empty] ∧
  tyS Try.prog 47 = .one ∧
  elemS Try.prog 47 = some (50, 10, 120) ∧
  lenK Try.prog 47 = 1 ∧
  zeroOk Try.prog 47 = true ∧
  zeroC Try.prog 47 = some [.slice none 0 0] ∧
  tyS Try.prog 48 = .one ∧
  elemS Try.prog 48 = some (69, 8, 160) ∧
  lenK Try.prog 48 = 1 ∧
  zeroOk Try.prog 48 = true ∧
  zeroC Try.prog 48 = some [.slice none 0 0] ∧
  tyS Try.prog 49 = .agg 10 ∧
  fieldOff Try.prog 49 0 = some 0 ∧
  fieldOff Try.prog 49 1 = some 1 ∧
  fieldOff Try.prog 49 2 = some 2 ∧
  fieldOff Try.prog 49 3 = some 3 ∧
  fieldOff Try.prog 49 4 = some 6 ∧
  fieldOff Try.prog 49 5 = some 7 :=
  ⟨ts44, ts45, ts46, fo46_0, fo46_1, fo46_2, pl46, zc46, ts47, es47, lk47, zo47, zc47, ts48, es48, lk48, zo48, zc48, ts49, fo49_0, fo49_1, fo49_2, fo49_3, fo49_4, fo49_5⟩
theorem tb5 : fieldOff Try.prog 49 6 = some 8 ∧
  fieldOff Try.prog 49 7 = some 9 ∧
  placesS Try.prog 49 = some [(0, 1), (1, 1), (2, 1), (3, 3), (6, 1), (7, 1), (8, 1), (9, 1)] ∧
  zeroC Try.prog 49 = some [.int .i64 0, .int .i64 0, .bool false, .int .i64 0, .int .i64 0, .string ByteArray.empty, .int .i64 0, .int .i64 0, .slice none 0 0, .slice none 0 0] ∧
  tyS Try.prog 50 = .agg 10 ∧
  fieldOff Try.prog 50 0 = some 0 ∧
  fieldOff Try.prog 50 1 = some 1 ∧
  fieldOff Try.prog 50 2 = some 2 ∧
  fieldOff Try.prog 50 3 = some 3 ∧
  fieldOff Try.prog 50 4 = some 6 ∧
  fieldOff Try.prog 50 5 = some 7 ∧
  fieldOff Try.prog 50 6 = some 8 ∧
  fieldOff Try.prog 50 7 = some 9 ∧
  placesS Try.prog 50 = some [(0, 1), (1, 1), (2, 1), (3, 3), (6, 1), (7, 1), (8, 1), (9, 1)] ∧
  zeroC Try.prog 50 = some [.int .i64 0, .int .i64 0, .bool false, .int .i64 0, .int .i64 0, .string ByteArray.empty, .int .i64 0, .int .i64 0, .slice none 0 0, .slice none 0 0] ∧
  tyS Try.prog 51 = .one ∧
  tyS Try.prog 52 = .one ∧
  tyS Try.prog 53 = .one ∧
  elemS Try.prog 53 = some (56, 10, 120) ∧
  lenK Try.prog 53 = 1 ∧
  zeroOk Try.prog 53 = true ∧
  zeroC Try.prog 53 = some [.slice none 0 0] ∧
  tyS Try.prog 54 = .one ∧
  elemS Try.prog 54 = some (74, 8, 160) ∧
  lenK Try.prog 54 = 1 :=
  ⟨fo49_6, fo49_7, pl49, zc49, ts50, fo50_0, fo50_1, fo50_2, fo50_3, fo50_4, fo50_5, fo50_6, fo50_7, pl50, zc50, ts51, ts52, ts53, es53, lk53, zo53, zc53, ts54, es54, lk54⟩
theorem tb6 : zeroOk Try.prog 54 = true ∧
  zeroC Try.prog 54 = some [.slice none 0 0] ∧
  tyS Try.prog 55 = .agg 10 ∧
  fieldOff Try.prog 55 0 = some 0 ∧
  fieldOff Try.prog 55 1 = some 1 ∧
  fieldOff Try.prog 55 2 = some 2 ∧
  fieldOff Try.prog 55 3 = some 3 ∧
  fieldOff Try.prog 55 4 = some 6 ∧
  fieldOff Try.prog 55 5 = some 7 ∧
  fieldOff Try.prog 55 6 = some 8 ∧
  fieldOff Try.prog 55 7 = some 9 ∧
  placesS Try.prog 55 = some [(0, 1), (1, 1), (2, 1), (3, 3), (6, 1), (7, 1), (8, 1), (9, 1)] ∧
  zeroC Try.prog 55 = some [.int .i64 0, .int .i64 0, .bool false, .int .i64 0, .int .i64 0, .string ByteArray.empty, .int .i64 0, .int .i64 0, .slice none 0 0, .slice none 0 0] ∧
  tyS Try.prog 56 = .agg 10 ∧
  fieldOff Try.prog 56 0 = some 0 ∧
  fieldOff Try.prog 56 1 = some 1 ∧
  fieldOff Try.prog 56 2 = some 2 ∧
  fieldOff Try.prog 56 3 = some 3 ∧
  fieldOff Try.prog 56 4 = some 6 ∧
  fieldOff Try.prog 56 5 = some 7 ∧
  fieldOff Try.prog 56 6 = some 8 ∧
  fieldOff Try.prog 56 7 = some 9 ∧
  placesS Try.prog 56 = some [(0, 1), (1, 1), (2, 1), (3, 3), (6, 1), (7, 1), (8, 1), (9, 1)] ∧
  zeroC Try.prog 56 = some [.int .i64 0, .int .i64 0, .bool false, .int .i64 0, .int .i64 0, .string ByteArray.empty, .int .i64 0, .int .i64 0, .slice none 0 0, .slice none 0 0] ∧
  tyS Try.prog 57 = .one :=
  ⟨zo54, zc54, ts55, fo55_0, fo55_1, fo55_2, fo55_3, fo55_4, fo55_5, fo55_6, fo55_7, pl55, zc55, ts56, fo56_0, fo56_1, fo56_2, fo56_3, fo56_4, fo56_5, fo56_6, fo56_7, pl56, zc56, ts57⟩
theorem tb7 : tyS Try.prog 58 = .one ∧
  tyS Try.prog 59 = .one ∧
  tyS Try.prog 60 = .one ∧
  tyS Try.prog 61 = .one ∧
  tyS Try.prog 62 = .one ∧
  tyS Try.prog 63 = .one ∧
  tyS Try.prog 64 = .one ∧
  elemS Try.prog 64 = some (3, 1, 8) ∧
  lenK Try.prog 64 = 1 ∧
  zeroOk Try.prog 64 = true ∧
  zeroC Try.prog 64 = some [.slice none 0 0] ∧
  tyS Try.prog 65 = .one ∧
  elemS Try.prog 65 = some (47, 1, 24) ∧
  lenK Try.prog 65 = 1 ∧
  zeroOk Try.prog 65 = true ∧
  zeroC Try.prog 65 = some [.slice none 0 0] ∧
  tyS Try.prog 66 = .one ∧
  elemS Try.prog 66 = some (163, 11, 128) ∧
  lenK Try.prog 66 = 1 ∧
  zeroOk Try.prog 66 = true ∧
  zeroC Try.prog 66 = some [.slice none 0 0] ∧
  tyS Try.prog 67 = .one ∧
  elemS Try.prog 67 = some (9, 1, 16) ∧
  lenK Try.prog 67 = 1 ∧
  zeroOk Try.prog 67 = true :=
  ⟨ts58, ts59, ts60, ts61, ts62, ts63, ts64, es64, lk64, zo64, zc64, ts65, es65, lk65, zo65, zc65, ts66, es66, lk66, zo66, zc66, ts67, es67, lk67, zo67⟩
theorem tb8 : zeroC Try.prog 67 = some [.slice none 0 0] ∧
  tyS Try.prog 68 = .agg 8 ∧
  fieldOff Try.prog 68 0 = some 0 ∧
  fieldOff Try.prog 68 1 = some 1 ∧
  fieldOff Try.prog 68 2 = some 2 ∧
  fieldOff Try.prog 68 3 = some 3 ∧
  fieldOff Try.prog 68 4 = some 4 ∧
  fieldOff Try.prog 68 5 = some 5 ∧
  fieldOff Try.prog 68 6 = some 6 ∧
  fieldOff Try.prog 68 7 = some 7 ∧
  placesS Try.prog 68 = some [(0, 1), (1, 1), (2, 1), (3, 1), (4, 1), (5, 1), (6, 1), (7, 1)] ∧
  zeroC Try.prog 68 = some [.slice none 0 0, .slice none 0 0, .slice none 0 0, .slice none 0 0, .slice none 0 0, .slice none 0 0, .bool false, .int .i64 0] ∧
  tyS Try.prog 69 = .agg 8 ∧
  fieldOff Try.prog 69 0 = some 0 ∧
  fieldOff Try.prog 69 1 = some 1 ∧
  fieldOff Try.prog 69 2 = some 2 ∧
  fieldOff Try.prog 69 3 = some 3 ∧
  fieldOff Try.prog 69 4 = some 4 ∧
  fieldOff Try.prog 69 5 = some 5 ∧
  fieldOff Try.prog 69 6 = some 6 ∧
  fieldOff Try.prog 69 7 = some 7 ∧
  placesS Try.prog 69 = some [(0, 1), (1, 1), (2, 1), (3, 1), (4, 1), (5, 1), (6, 1), (7, 1)] ∧
  zeroC Try.prog 69 = some [.slice none 0 0, .slice none 0 0, .slice none 0 0, .slice none 0 0, .slice none 0 0, .slice none 0 0, .bool false, .int .i64 0] ∧
  tyS Try.prog 70 = .one ∧
  tyS Try.prog 71 = .one :=
  ⟨zc67, ts68, fo68_0, fo68_1, fo68_2, fo68_3, fo68_4, fo68_5, fo68_6, fo68_7, pl68, zc68, ts69, fo69_0, fo69_1, fo69_2, fo69_3, fo69_4, fo69_5, fo69_6, fo69_7, pl69, zc69, ts70, ts71⟩
theorem tb9 : elemS Try.prog 71 = some (53, 1, 24) ∧
  lenK Try.prog 71 = 1 ∧
  zeroOk Try.prog 71 = true ∧
  zeroC Try.prog 71 = some [.slice none 0 0] ∧
  tyS Try.prog 72 = .one ∧
  elemS Try.prog 72 = some (122, 11, 128) ∧
  lenK Try.prog 72 = 1 ∧
  zeroOk Try.prog 72 = true ∧
  zeroC Try.prog 72 = some [.slice none 0 0] ∧
  tyS Try.prog 73 = .agg 8 ∧
  fieldOff Try.prog 73 0 = some 0 ∧
  fieldOff Try.prog 73 1 = some 1 ∧
  fieldOff Try.prog 73 2 = some 2 ∧
  fieldOff Try.prog 73 3 = some 3 ∧
  fieldOff Try.prog 73 4 = some 4 ∧
  fieldOff Try.prog 73 5 = some 5 ∧
  fieldOff Try.prog 73 6 = some 6 ∧
  fieldOff Try.prog 73 7 = some 7 ∧
  placesS Try.prog 73 = some [(0, 1), (1, 1), (2, 1), (3, 1), (4, 1), (5, 1), (6, 1), (7, 1)] ∧
  zeroC Try.prog 73 = some [.slice none 0 0, .slice none 0 0, .slice none 0 0, .slice none 0 0, .slice none 0 0, .slice none 0 0, .bool false, .int .i64 0] ∧
  tyS Try.prog 74 = .agg 8 ∧
  fieldOff Try.prog 74 0 = some 0 ∧
  fieldOff Try.prog 74 1 = some 1 ∧
  fieldOff Try.prog 74 2 = some 2 ∧
  fieldOff Try.prog 74 3 = some 3 :=
  ⟨es71, lk71, zo71, zc71, ts72, es72, lk72, zo72, zc72, ts73, fo73_0, fo73_1, fo73_2, fo73_3, fo73_4, fo73_5, fo73_6, fo73_7, pl73, zc73, ts74, fo74_0, fo74_1, fo74_2, fo74_3⟩
theorem tb10 : fieldOff Try.prog 74 4 = some 4 ∧
  fieldOff Try.prog 74 5 = some 5 ∧
  fieldOff Try.prog 74 6 = some 6 ∧
  fieldOff Try.prog 74 7 = some 7 ∧
  placesS Try.prog 74 = some [(0, 1), (1, 1), (2, 1), (3, 1), (4, 1), (5, 1), (6, 1), (7, 1)] ∧
  zeroC Try.prog 74 = some [.slice none 0 0, .slice none 0 0, .slice none 0 0, .slice none 0 0, .slice none 0 0, .slice none 0 0, .bool false, .int .i64 0] ∧
  tyS Try.prog 75 = .one ∧
  tyS Try.prog 76 = .one ∧
  tyS Try.prog 77 = .one ∧
  tyS Try.prog 78 = .one ∧
  tyS Try.prog 79 = .one ∧
  tyS Try.prog 80 = .one ∧
  tyS Try.prog 81 = .one ∧
  tyS Try.prog 82 = .one ∧
  tyS Try.prog 83 = .one ∧
  tyS Try.prog 84 = .one ∧
  tyS Try.prog 85 = .one ∧
  tyS Try.prog 86 = .one ∧
  tyS Try.prog 87 = .one ∧
  zeroC Try.prog 87 = some [.pointer none] ∧
  tyS Try.prog 88 = .one ∧
  tyS Try.prog 89 = .one ∧
  tyS Try.prog 90 = .one ∧
  tyS Try.prog 91 = .one ∧
  tyS Try.prog 92 = .one :=
  ⟨fo74_4, fo74_5, fo74_6, fo74_7, pl74, zc74, ts75, ts76, ts77, ts78, ts79, ts80, ts81, ts82, ts83, ts84, ts85, ts86, ts87, zc87, ts88, ts89, ts90, ts91, ts92⟩
theorem tb11 : tyS Try.prog 93 = .one ∧
  tyS Try.prog 94 = .one ∧
  tyS Try.prog 95 = .one ∧
  tyS Try.prog 96 = .one ∧
  tyS Try.prog 97 = .one ∧
  tyS Try.prog 98 = .one ∧
  tyS Try.prog 99 = .one ∧
  tyS Try.prog 100 = .one ∧
  tyS Try.prog 101 = .one ∧
  tyS Try.prog 102 = .one ∧
  tyS Try.prog 103 = .one ∧
  tyS Try.prog 104 = .one ∧
  tyS Try.prog 105 = .one ∧
  tyS Try.prog 106 = .one ∧
  tyS Try.prog 107 = .one ∧
  tyS Try.prog 108 = .one ∧
  tyS Try.prog 109 = .one ∧
  tyS Try.prog 110 = .one ∧
  tyS Try.prog 111 = .one ∧
  tyS Try.prog 112 = .one ∧
  tyS Try.prog 113 = .one ∧
  tyS Try.prog 114 = .one ∧
  tyS Try.prog 115 = .one ∧
  tyS Try.prog 116 = .one ∧
  tyS Try.prog 117 = .one :=
  ⟨ts93, ts94, ts95, ts96, ts97, ts98, ts99, ts100, ts101, ts102, ts103, ts104, ts105, ts106, ts107, ts108, ts109, ts110, ts111, ts112, ts113, ts114, ts115, ts116, ts117⟩
theorem tb12 : tyS Try.prog 118 = .one ∧
  tyS Try.prog 119 = .one ∧
  tyS Try.prog 120 = .one ∧
  tyS Try.prog 121 = .agg 11 ∧
  fieldOff Try.prog 121 0 = some 0 ∧
  fieldOff Try.prog 121 1 = some 10 ∧
  placesS Try.prog 121 = some [(0, 10), (10, 1)] ∧
  zeroC Try.prog 121 = some [.int .i64 0, .int .i64 0, .bool false, .int .i64 0, .int .i64 0, .string ByteArray.empty, .int .i64 0, .int .i64 0, .slice none 0 0, .slice none 0 0, .bool false] ∧
  tyS Try.prog 122 = .agg 11 ∧
  fieldOff Try.prog 122 0 = some 0 ∧
  fieldOff Try.prog 122 1 = some 10 ∧
  placesS Try.prog 122 = some [(0, 10), (10, 1)] ∧
  zeroC Try.prog 122 = some [.int .i64 0, .int .i64 0, .bool false, .int .i64 0, .int .i64 0, .string ByteArray.empty, .int .i64 0, .int .i64 0, .slice none 0 0, .slice none 0 0, .bool false] ∧
  tyS Try.prog 123 = .one ∧
  tyS Try.prog 124 = .one ∧
  tyS Try.prog 125 = .one ∧
  tyS Try.prog 126 = .one ∧
  tyS Try.prog 127 = .one ∧
  tyS Try.prog 128 = .one ∧
  tyS Try.prog 129 = .one ∧
  tyS Try.prog 130 = .one ∧
  tyS Try.prog 131 = .one ∧
  tyS Try.prog 132 = .one ∧
  tyS Try.prog 133 = .one ∧
  tyS Try.prog 134 = .one :=
  ⟨ts118, ts119, ts120, ts121, fo121_0, fo121_1, pl121, zc121, ts122, fo122_0, fo122_1, pl122, zc122, ts123, ts124, ts125, ts126, ts127, ts128, ts129, ts130, ts131, ts132, ts133, ts134⟩
theorem tb13 : tyS Try.prog 135 = .one ∧
  elemS Try.prog 135 = some (46, 3, 32) ∧
  lenK Try.prog 135 = 1 ∧
  zeroOk Try.prog 135 = true ∧
  zeroC Try.prog 135 = some [.slice none 0 0] ∧
  tyS Try.prog 136 = .one ∧
  tyS Try.prog 137 = .one ∧
  elemS Try.prog 137 = some (40, 3, 32) ∧
  lenK Try.prog 137 = 1 ∧
  zeroOk Try.prog 137 = true ∧
  zeroC Try.prog 137 = some [.slice none 0 0] ∧
  tyS Try.prog 138 = .one ∧
  tyS Try.prog 139 = .one ∧
  tyS Try.prog 140 = .agg 3 ∧
  fieldOff Try.prog 140 0 = some 0 ∧
  fieldOff Try.prog 140 1 = some 1 ∧
  fieldOff Try.prog 140 2 = some 2 ∧
  placesS Try.prog 140 = some [(0, 1), (1, 1), (2, 1)] ∧
  zeroC Try.prog 140 = some [.slice none 0 0, .int .i64 0, .int .i64 0] ∧
  tyS Try.prog 141 = .agg 3 ∧
  fieldOff Try.prog 141 0 = some 0 ∧
  fieldOff Try.prog 141 1 = some 1 ∧
  fieldOff Try.prog 141 2 = some 2 ∧
  placesS Try.prog 141 = some [(0, 1), (1, 1), (2, 1)] ∧
  zeroC Try.prog 141 = some [.slice none 0 0, .int .i64 0, .int .i64 0] :=
  ⟨ts135, es135, lk135, zo135, zc135, ts136, ts137, es137, lk137, zo137, zc137, ts138, ts139, ts140, fo140_0, fo140_1, fo140_2, pl140, zc140, ts141, fo141_0, fo141_1, fo141_2, pl141, zc141⟩
theorem tb14 : tyS Try.prog 142 = .one ∧
  tyS Try.prog 143 = .one ∧
  tyS Try.prog 145 = .one ∧
  tyS Try.prog 146 = .one ∧
  tyS Try.prog 147 = .one ∧
  elemS Try.prog 147 = some (174, 2, 40) ∧
  lenK Try.prog 147 = 1 ∧
  zeroOk Try.prog 147 = true ∧
  zeroC Try.prog 147 = some [.slice none 0 0] ∧
  tyS Try.prog 148 = .agg 1 ∧
  fieldOff Try.prog 148 0 = some 0 ∧
  placesS Try.prog 148 = some [(0, 1)] ∧
  zeroC Try.prog 148 = some [.slice none 0 0] ∧
  tyS Try.prog 149 = .agg 1 ∧
  fieldOff Try.prog 149 0 = some 0 ∧
  placesS Try.prog 149 = some [(0, 1)] ∧
  zeroC Try.prog 149 = some [.slice none 0 0] ∧
  tyS Try.prog 150 = .one ∧
  tyS Try.prog 151 = .one ∧
  elemS Try.prog 151 = some (64, 1, 24) ∧
  lenK Try.prog 151 = 1 ∧
  zeroOk Try.prog 151 = true ∧
  zeroC Try.prog 151 = some [.slice none 0 0] ∧
  tyS Try.prog 152 = .one ∧
  tyS Try.prog 153 = .one :=
  ⟨ts142, ts143, ts145, ts146, ts147, es147, lk147, zo147, zc147, ts148, fo148_0, pl148, zc148, ts149, fo149_0, pl149, zc149, ts150, ts151, es151, lk151, zo151, zc151, ts152, ts153⟩
theorem tb15 : tyS Try.prog 154 = .one ∧
  tyS Try.prog 155 = .one ∧
  tyS Try.prog 156 = .one ∧
  tyS Try.prog 157 = .one ∧
  tyS Try.prog 158 = .one ∧
  tyS Try.prog 159 = .one ∧
  tyS Try.prog 160 = .one ∧
  tyS Try.prog 161 = .one ∧
  tyS Try.prog 162 = .agg 11 ∧
  fieldOff Try.prog 162 0 = some 0 ∧
  fieldOff Try.prog 162 1 = some 10 ∧
  placesS Try.prog 162 = some [(0, 10), (10, 1)] ∧
  zeroC Try.prog 162 = some [.int .i64 0, .int .i64 0, .bool false, .int .i64 0, .int .i64 0, .string ByteArray.empty, .int .i64 0, .int .i64 0, .slice none 0 0, .slice none 0 0, .bool false] ∧
  tyS Try.prog 163 = .agg 11 ∧
  fieldOff Try.prog 163 0 = some 0 ∧
  fieldOff Try.prog 163 1 = some 10 ∧
  placesS Try.prog 163 = some [(0, 10), (10, 1)] ∧
  zeroC Try.prog 163 = some [.int .i64 0, .int .i64 0, .bool false, .int .i64 0, .int .i64 0, .string ByteArray.empty, .int .i64 0, .int .i64 0, .slice none 0 0, .slice none 0 0, .bool false] ∧
  tyS Try.prog 164 = .one ∧
  tyS Try.prog 165 = .one ∧
  tyS Try.prog 166 = .one ∧
  zeroC Try.prog 166 = some [.int .u64 0] ∧
  tyS Try.prog 167 = .one ∧
  tyS Try.prog 168 = .one ∧
  tyS Try.prog 169 = .one :=
  ⟨ts154, ts155, ts156, ts157, ts158, ts159, ts160, ts161, ts162, fo162_0, fo162_1, pl162, zc162, ts163, fo163_0, fo163_1, pl163, zc163, ts164, ts165, ts166, zc166, ts167, ts168, ts169⟩
theorem tb16 : tyS Try.prog 170 = .one ∧
  tyS Try.prog 171 = .one ∧
  tyS Try.prog 172 = .one ∧
  elemS Try.prog 172 = some (176, 2, 24) ∧
  lenK Try.prog 172 = 1 ∧
  zeroOk Try.prog 172 = true ∧
  zeroC Try.prog 172 = some [.slice none 0 0] ∧
  tyS Try.prog 173 = .agg 2 ∧
  fieldOff Try.prog 173 0 = some 0 ∧
  fieldOff Try.prog 173 1 = some 1 ∧
  placesS Try.prog 173 = some [(0, 1), (1, 1)] ∧
  zeroC Try.prog 173 = some [.string ByteArray.empty, .slice none 0 0] ∧
  tyS Try.prog 174 = .agg 2 ∧
  fieldOff Try.prog 174 0 = some 0 ∧
  fieldOff Try.prog 174 1 = some 1 ∧
  placesS Try.prog 174 = some [(0, 1), (1, 1)] ∧
  zeroC Try.prog 174 = some [.string ByteArray.empty, .slice none 0 0] ∧
  tyS Try.prog 175 = .agg 2 ∧
  fieldOff Try.prog 175 0 = some 0 ∧
  fieldOff Try.prog 175 1 = some 1 ∧
  placesS Try.prog 175 = some [(0, 1), (1, 1)] ∧
  zeroC Try.prog 175 = some [.string ByteArray.empty, .int .i64 0] ∧
  tyS Try.prog 176 = .agg 2 ∧
  fieldOff Try.prog 176 0 = some 0 ∧
  fieldOff Try.prog 176 1 = some 1 :=
  ⟨ts170, ts171, ts172, es172, lk172, zo172, zc172, ts173, fo173_0, fo173_1, pl173, zc173, ts174, fo174_0, fo174_1, pl174, zc174, ts175, fo175_0, fo175_1, pl175, zc175, ts176, fo176_0, fo176_1⟩
theorem tb17 : placesS Try.prog 176 = some [(0, 1), (1, 1)] ∧
  zeroC Try.prog 176 = some [.string ByteArray.empty, .int .i64 0] ∧
  tyS Try.prog 177 = .one ∧
  tyS Try.prog 178 = .one ∧
  tyS Try.prog 179 = .one ∧
  tyS Try.prog 180 = .one ∧
  tyS Try.prog 182 = .one ∧
  tyS Try.prog 183 = .one ∧
  tyS Try.prog 184 = .one ∧
  tyS Try.prog 185 = .one ∧
  tyS Try.prog 186 = .one ∧
  tyS Try.prog 192 = .one ∧
  tyS Try.prog 193 = .one ∧
  zeroC Try.prog 193 = some [.int .u32 0] ∧
  tyS Try.prog 196 = .one ∧
  tyS Try.prog 197 = .one ∧
  zeroC Try.prog 197 = some [.pointer none] ∧
  tyS Try.prog 202 = .one :=
  ⟨pl176, zc176, ts177, ts178, ts179, ts180, ts182, ts183, ts184, ts185, ts186, ts192, ts193, zc193, ts196, ts197, zc197, ts202⟩
theorem tb18 : (tyS Try.prog 1 = .one ∧
  tyS Try.prog 2 = .one ∧
  zeroC Try.prog 2 = some [.int .i64 0] ∧
  tyS Try.prog 3 = .one ∧
  zeroC Try.prog 3 = some [.int .i64 0] ∧
  tyS Try.prog 4 = .one ∧
  Try.prog.underlying 4 = some .bool ∧
  zeroC Try.prog 4 = some [.bool false] ∧
  tyS Try.prog 5 = .one ∧
  zeroC Try.prog 5 = some [.int .u8 0] ∧
  tyS Try.prog 9 = .one ∧
  lenK Try.prog 9 = 2 ∧
  zeroC Try.prog 9 = some [.string ByteArray.empty] ∧
  tyS Try.prog 12 = .one ∧
  zeroC Try.prog 12 = some [.int .u64 0] ∧
  tyS Try.prog 13 = .agg 2 ∧
  fieldOff Try.prog 13 0 = some 0 ∧
  fieldOff Try.prog 13 1 = some 1 ∧
  placesS Try.prog 13 = some [(0, 1), (1, 1)] ∧
  zeroC Try.prog 13 = some [.string ByteArray.empty, .int .u64 0] ∧
  tyS Try.prog 21 = .one ∧
  zeroC Try.prog 21 = some [.int .i32 0] ∧
  tyS Try.prog 22 = .one ∧
  tyS Try.prog 23 = .one ∧
  tyS Try.prog 24 = .agg 2) ∧
  (fieldOff Try.prog 24 0 = some 0 ∧
  fieldOff Try.prog 24 1 = some 1 ∧
  placesS Try.prog 24 = some [(0, 1), (1, 1)] ∧
  zeroC Try.prog 24 = some [.int .i64 0, .string ByteArray.empty] ∧
  tyS Try.prog 25 = .agg 2 ∧
  fieldOff Try.prog 25 0 = some 0 ∧
  fieldOff Try.prog 25 1 = some 1 ∧
  placesS Try.prog 25 = some [(0, 1), (1, 1)] ∧
  zeroC Try.prog 25 = some [.int .i64 0, .string ByteArray.empty] ∧
  tyS Try.prog 26 = .one ∧
  elemS Try.prog 26 = some (135, 1, 24) ∧
  lenK Try.prog 26 = 1 ∧
  zeroOk Try.prog 26 = true ∧
  zeroC Try.prog 26 = some [.slice none 0 0] ∧
  tyS Try.prog 27 = .agg 5 ∧
  fieldOff Try.prog 27 0 = some 0 ∧
  fieldOff Try.prog 27 1 = some 2 ∧
  fieldOff Try.prog 27 2 = some 3 ∧
  fieldOff Try.prog 27 3 = some 4 ∧
  placesS Try.prog 27 = some [(0, 2), (2, 1), (3, 1), (4, 1)] ∧
  zeroC Try.prog 27 = some [.int .i64 0, .string ByteArray.empty, .int .i64 0, .slice none 0 0, .int .i64 0] ∧
  tyS Try.prog 28 = .agg 5 ∧
  fieldOff Try.prog 28 0 = some 0 ∧
  fieldOff Try.prog 28 1 = some 2 ∧
  fieldOff Try.prog 28 2 = some 3) ∧
  (fieldOff Try.prog 28 3 = some 4 ∧
  placesS Try.prog 28 = some [(0, 2), (2, 1), (3, 1), (4, 1)] ∧
  zeroC Try.prog 28 = some [.int .i64 0, .string ByteArray.empty, .int .i64 0, .slice none 0 0, .int .i64 0] ∧
  tyS Try.prog 29 = .one ∧
  tyS Try.prog 30 = .one ∧
  tyS Try.prog 31 = .agg 2 ∧
  fieldOff Try.prog 31 0 = some 0 ∧
  fieldOff Try.prog 31 1 = some 1 ∧
  placesS Try.prog 31 = some [(0, 1), (1, 1)] ∧
  zeroC Try.prog 31 = some [.int .i64 0, .string ByteArray.empty] ∧
  tyS Try.prog 32 = .one ∧
  elemS Try.prog 32 = some (137, 1, 24) ∧
  lenK Try.prog 32 = 1 ∧
  zeroOk Try.prog 32 = true ∧
  zeroC Try.prog 32 = some [.slice none 0 0] ∧
  tyS Try.prog 33 = .agg 5 ∧
  fieldOff Try.prog 33 0 = some 0 ∧
  fieldOff Try.prog 33 1 = some 2 ∧
  fieldOff Try.prog 33 2 = some 3 ∧
  fieldOff Try.prog 33 3 = some 4 ∧
  placesS Try.prog 33 = some [(0, 2), (2, 1), (3, 1), (4, 1)] ∧
  zeroC Try.prog 33 = some [.int .i64 0, .string ByteArray.empty, .int .i64 0, .slice none 0 0, .int .i64 0] ∧
  tyS Try.prog 34 = .agg 5 ∧
  fieldOff Try.prog 34 0 = some 0 ∧
  fieldOff Try.prog 34 1 = some 2) ∧
  (fieldOff Try.prog 34 2 = some 3 ∧
  fieldOff Try.prog 34 3 = some 4 ∧
  placesS Try.prog 34 = some [(0, 2), (2, 1), (3, 1), (4, 1)] ∧
  zeroC Try.prog 34 = some [.int .i64 0, .string ByteArray.empty, .int .i64 0, .slice none 0 0, .int .i64 0] ∧
  tyS Try.prog 35 = .one ∧
  tyS Try.prog 36 = .one ∧
  tyS Try.prog 37 = .one ∧
  elemS Try.prog 37 = some (5, 1, 1) ∧
  lenK Try.prog 37 = 1 ∧
  zeroOk Try.prog 37 = true ∧
  zeroC Try.prog 37 = some [.slice none 0 0] ∧
  tyS Try.prog 38 = .one ∧
  tyS Try.prog 39 = .agg 3 ∧
  fieldOff Try.prog 39 0 = some 0 ∧
  fieldOff Try.prog 39 1 = some 1 ∧
  fieldOff Try.prog 39 2 = some 2 ∧
  placesS Try.prog 39 = some [(0, 1), (1, 1), (2, 1)] ∧
  zeroC Try.prog 39 = some [.int .i64 0, .int .i64 0, .string ByteArray.empty] ∧
  tyS Try.prog 40 = .agg 3 ∧
  fieldOff Try.prog 40 0 = some 0 ∧
  fieldOff Try.prog 40 1 = some 1 ∧
  fieldOff Try.prog 40 2 = some 2 ∧
  placesS Try.prog 40 = some [(0, 1), (1, 1), (2, 1)] ∧
  zeroC Try.prog 40 = some [.int .i64 0, .int .i64 0, .string ByteArray.empty] ∧
  tyS Try.prog 42 = .one) ∧
  (tyS Try.prog 44 = .one ∧
  tyS Try.prog 45 = .one ∧
  tyS Try.prog 46 = .agg 3 ∧
  fieldOff Try.prog 46 0 = some 0 ∧
  fieldOff Try.prog 46 1 = some 1 ∧
  fieldOff Try.prog 46 2 = some 2 ∧
  placesS Try.prog 46 = some [(0, 1), (1, 1), (2, 1)] ∧
  zeroC Try.prog 46 = some [.int .i64 0, .int .i64 0, .string ByteArray.empty] ∧
  tyS Try.prog 47 = .one ∧
  elemS Try.prog 47 = some (50, 10, 120) ∧
  lenK Try.prog 47 = 1 ∧
  zeroOk Try.prog 47 = true ∧
  zeroC Try.prog 47 = some [.slice none 0 0] ∧
  tyS Try.prog 48 = .one ∧
  elemS Try.prog 48 = some (69, 8, 160) ∧
  lenK Try.prog 48 = 1 ∧
  zeroOk Try.prog 48 = true ∧
  zeroC Try.prog 48 = some [.slice none 0 0] ∧
  tyS Try.prog 49 = .agg 10 ∧
  fieldOff Try.prog 49 0 = some 0 ∧
  fieldOff Try.prog 49 1 = some 1 ∧
  fieldOff Try.prog 49 2 = some 2 ∧
  fieldOff Try.prog 49 3 = some 3 ∧
  fieldOff Try.prog 49 4 = some 6 ∧
  fieldOff Try.prog 49 5 = some 7) ∧
  (fieldOff Try.prog 49 6 = some 8 ∧
  fieldOff Try.prog 49 7 = some 9 ∧
  placesS Try.prog 49 = some [(0, 1), (1, 1), (2, 1), (3, 3), (6, 1), (7, 1), (8, 1), (9, 1)] ∧
  zeroC Try.prog 49 = some [.int .i64 0, .int .i64 0, .bool false, .int .i64 0, .int .i64 0, .string ByteArray.empty, .int .i64 0, .int .i64 0, .slice none 0 0, .slice none 0 0] ∧
  tyS Try.prog 50 = .agg 10 ∧
  fieldOff Try.prog 50 0 = some 0 ∧
  fieldOff Try.prog 50 1 = some 1 ∧
  fieldOff Try.prog 50 2 = some 2 ∧
  fieldOff Try.prog 50 3 = some 3 ∧
  fieldOff Try.prog 50 4 = some 6 ∧
  fieldOff Try.prog 50 5 = some 7 ∧
  fieldOff Try.prog 50 6 = some 8 ∧
  fieldOff Try.prog 50 7 = some 9 ∧
  placesS Try.prog 50 = some [(0, 1), (1, 1), (2, 1), (3, 3), (6, 1), (7, 1), (8, 1), (9, 1)] ∧
  zeroC Try.prog 50 = some [.int .i64 0, .int .i64 0, .bool false, .int .i64 0, .int .i64 0, .string ByteArray.empty, .int .i64 0, .int .i64 0, .slice none 0 0, .slice none 0 0] ∧
  tyS Try.prog 51 = .one ∧
  tyS Try.prog 52 = .one ∧
  tyS Try.prog 53 = .one ∧
  elemS Try.prog 53 = some (56, 10, 120) ∧
  lenK Try.prog 53 = 1 ∧
  zeroOk Try.prog 53 = true ∧
  zeroC Try.prog 53 = some [.slice none 0 0] ∧
  tyS Try.prog 54 = .one ∧
  elemS Try.prog 54 = some (74, 8, 160) ∧
  lenK Try.prog 54 = 1) ∧
  (zeroOk Try.prog 54 = true ∧
  zeroC Try.prog 54 = some [.slice none 0 0] ∧
  tyS Try.prog 55 = .agg 10 ∧
  fieldOff Try.prog 55 0 = some 0 ∧
  fieldOff Try.prog 55 1 = some 1 ∧
  fieldOff Try.prog 55 2 = some 2 ∧
  fieldOff Try.prog 55 3 = some 3 ∧
  fieldOff Try.prog 55 4 = some 6 ∧
  fieldOff Try.prog 55 5 = some 7 ∧
  fieldOff Try.prog 55 6 = some 8 ∧
  fieldOff Try.prog 55 7 = some 9 ∧
  placesS Try.prog 55 = some [(0, 1), (1, 1), (2, 1), (3, 3), (6, 1), (7, 1), (8, 1), (9, 1)] ∧
  zeroC Try.prog 55 = some [.int .i64 0, .int .i64 0, .bool false, .int .i64 0, .int .i64 0, .string ByteArray.empty, .int .i64 0, .int .i64 0, .slice none 0 0, .slice none 0 0] ∧
  tyS Try.prog 56 = .agg 10 ∧
  fieldOff Try.prog 56 0 = some 0 ∧
  fieldOff Try.prog 56 1 = some 1 ∧
  fieldOff Try.prog 56 2 = some 2 ∧
  fieldOff Try.prog 56 3 = some 3 ∧
  fieldOff Try.prog 56 4 = some 6 ∧
  fieldOff Try.prog 56 5 = some 7 ∧
  fieldOff Try.prog 56 6 = some 8 ∧
  fieldOff Try.prog 56 7 = some 9 ∧
  placesS Try.prog 56 = some [(0, 1), (1, 1), (2, 1), (3, 3), (6, 1), (7, 1), (8, 1), (9, 1)] ∧
  zeroC Try.prog 56 = some [.int .i64 0, .int .i64 0, .bool false, .int .i64 0, .int .i64 0, .string ByteArray.empty, .int .i64 0, .int .i64 0, .slice none 0 0, .slice none 0 0] ∧
  tyS Try.prog 57 = .one) ∧
  (tyS Try.prog 58 = .one ∧
  tyS Try.prog 59 = .one ∧
  tyS Try.prog 60 = .one ∧
  tyS Try.prog 61 = .one ∧
  tyS Try.prog 62 = .one ∧
  tyS Try.prog 63 = .one ∧
  tyS Try.prog 64 = .one ∧
  elemS Try.prog 64 = some (3, 1, 8) ∧
  lenK Try.prog 64 = 1 ∧
  zeroOk Try.prog 64 = true ∧
  zeroC Try.prog 64 = some [.slice none 0 0] ∧
  tyS Try.prog 65 = .one ∧
  elemS Try.prog 65 = some (47, 1, 24) ∧
  lenK Try.prog 65 = 1 ∧
  zeroOk Try.prog 65 = true ∧
  zeroC Try.prog 65 = some [.slice none 0 0] ∧
  tyS Try.prog 66 = .one ∧
  elemS Try.prog 66 = some (163, 11, 128) ∧
  lenK Try.prog 66 = 1 ∧
  zeroOk Try.prog 66 = true ∧
  zeroC Try.prog 66 = some [.slice none 0 0] ∧
  tyS Try.prog 67 = .one ∧
  elemS Try.prog 67 = some (9, 1, 16) ∧
  lenK Try.prog 67 = 1 ∧
  zeroOk Try.prog 67 = true) ∧
  (zeroC Try.prog 67 = some [.slice none 0 0] ∧
  tyS Try.prog 68 = .agg 8 ∧
  fieldOff Try.prog 68 0 = some 0 ∧
  fieldOff Try.prog 68 1 = some 1 ∧
  fieldOff Try.prog 68 2 = some 2 ∧
  fieldOff Try.prog 68 3 = some 3 ∧
  fieldOff Try.prog 68 4 = some 4 ∧
  fieldOff Try.prog 68 5 = some 5 ∧
  fieldOff Try.prog 68 6 = some 6 ∧
  fieldOff Try.prog 68 7 = some 7 ∧
  placesS Try.prog 68 = some [(0, 1), (1, 1), (2, 1), (3, 1), (4, 1), (5, 1), (6, 1), (7, 1)] ∧
  zeroC Try.prog 68 = some [.slice none 0 0, .slice none 0 0, .slice none 0 0, .slice none 0 0, .slice none 0 0, .slice none 0 0, .bool false, .int .i64 0] ∧
  tyS Try.prog 69 = .agg 8 ∧
  fieldOff Try.prog 69 0 = some 0 ∧
  fieldOff Try.prog 69 1 = some 1 ∧
  fieldOff Try.prog 69 2 = some 2 ∧
  fieldOff Try.prog 69 3 = some 3 ∧
  fieldOff Try.prog 69 4 = some 4 ∧
  fieldOff Try.prog 69 5 = some 5 ∧
  fieldOff Try.prog 69 6 = some 6 ∧
  fieldOff Try.prog 69 7 = some 7 ∧
  placesS Try.prog 69 = some [(0, 1), (1, 1), (2, 1), (3, 1), (4, 1), (5, 1), (6, 1), (7, 1)] ∧
  zeroC Try.prog 69 = some [.slice none 0 0, .slice none 0 0, .slice none 0 0, .slice none 0 0, .slice none 0 0, .slice none 0 0, .bool false, .int .i64 0] ∧
  tyS Try.prog 70 = .one ∧
  tyS Try.prog 71 = .one) ∧
  (elemS Try.prog 71 = some (53, 1, 24) ∧
  lenK Try.prog 71 = 1 ∧
  zeroOk Try.prog 71 = true ∧
  zeroC Try.prog 71 = some [.slice none 0 0] ∧
  tyS Try.prog 72 = .one ∧
  elemS Try.prog 72 = some (122, 11, 128) ∧
  lenK Try.prog 72 = 1 ∧
  zeroOk Try.prog 72 = true ∧
  zeroC Try.prog 72 = some [.slice none 0 0] ∧
  tyS Try.prog 73 = .agg 8 ∧
  fieldOff Try.prog 73 0 = some 0 ∧
  fieldOff Try.prog 73 1 = some 1 ∧
  fieldOff Try.prog 73 2 = some 2 ∧
  fieldOff Try.prog 73 3 = some 3 ∧
  fieldOff Try.prog 73 4 = some 4 ∧
  fieldOff Try.prog 73 5 = some 5 ∧
  fieldOff Try.prog 73 6 = some 6 ∧
  fieldOff Try.prog 73 7 = some 7 ∧
  placesS Try.prog 73 = some [(0, 1), (1, 1), (2, 1), (3, 1), (4, 1), (5, 1), (6, 1), (7, 1)] ∧
  zeroC Try.prog 73 = some [.slice none 0 0, .slice none 0 0, .slice none 0 0, .slice none 0 0, .slice none 0 0, .slice none 0 0, .bool false, .int .i64 0] ∧
  tyS Try.prog 74 = .agg 8 ∧
  fieldOff Try.prog 74 0 = some 0 ∧
  fieldOff Try.prog 74 1 = some 1 ∧
  fieldOff Try.prog 74 2 = some 2 ∧
  fieldOff Try.prog 74 3 = some 3) ∧
  (fieldOff Try.prog 74 4 = some 4 ∧
  fieldOff Try.prog 74 5 = some 5 ∧
  fieldOff Try.prog 74 6 = some 6 ∧
  fieldOff Try.prog 74 7 = some 7 ∧
  placesS Try.prog 74 = some [(0, 1), (1, 1), (2, 1), (3, 1), (4, 1), (5, 1), (6, 1), (7, 1)] ∧
  zeroC Try.prog 74 = some [.slice none 0 0, .slice none 0 0, .slice none 0 0, .slice none 0 0, .slice none 0 0, .slice none 0 0, .bool false, .int .i64 0] ∧
  tyS Try.prog 75 = .one ∧
  tyS Try.prog 76 = .one ∧
  tyS Try.prog 77 = .one ∧
  tyS Try.prog 78 = .one ∧
  tyS Try.prog 79 = .one ∧
  tyS Try.prog 80 = .one ∧
  tyS Try.prog 81 = .one ∧
  tyS Try.prog 82 = .one ∧
  tyS Try.prog 83 = .one ∧
  tyS Try.prog 84 = .one ∧
  tyS Try.prog 85 = .one ∧
  tyS Try.prog 86 = .one ∧
  tyS Try.prog 87 = .one ∧
  zeroC Try.prog 87 = some [.pointer none] ∧
  tyS Try.prog 88 = .one ∧
  tyS Try.prog 89 = .one ∧
  tyS Try.prog 90 = .one ∧
  tyS Try.prog 91 = .one ∧
  tyS Try.prog 92 = .one) ∧
  (tyS Try.prog 93 = .one ∧
  tyS Try.prog 94 = .one ∧
  tyS Try.prog 95 = .one ∧
  tyS Try.prog 96 = .one ∧
  tyS Try.prog 97 = .one ∧
  tyS Try.prog 98 = .one ∧
  tyS Try.prog 99 = .one ∧
  tyS Try.prog 100 = .one ∧
  tyS Try.prog 101 = .one ∧
  tyS Try.prog 102 = .one ∧
  tyS Try.prog 103 = .one ∧
  tyS Try.prog 104 = .one ∧
  tyS Try.prog 105 = .one ∧
  tyS Try.prog 106 = .one ∧
  tyS Try.prog 107 = .one ∧
  tyS Try.prog 108 = .one ∧
  tyS Try.prog 109 = .one ∧
  tyS Try.prog 110 = .one ∧
  tyS Try.prog 111 = .one ∧
  tyS Try.prog 112 = .one ∧
  tyS Try.prog 113 = .one ∧
  tyS Try.prog 114 = .one ∧
  tyS Try.prog 115 = .one ∧
  tyS Try.prog 116 = .one ∧
  tyS Try.prog 117 = .one) ∧
  (tyS Try.prog 118 = .one ∧
  tyS Try.prog 119 = .one ∧
  tyS Try.prog 120 = .one ∧
  tyS Try.prog 121 = .agg 11 ∧
  fieldOff Try.prog 121 0 = some 0 ∧
  fieldOff Try.prog 121 1 = some 10 ∧
  placesS Try.prog 121 = some [(0, 10), (10, 1)] ∧
  zeroC Try.prog 121 = some [.int .i64 0, .int .i64 0, .bool false, .int .i64 0, .int .i64 0, .string ByteArray.empty, .int .i64 0, .int .i64 0, .slice none 0 0, .slice none 0 0, .bool false] ∧
  tyS Try.prog 122 = .agg 11 ∧
  fieldOff Try.prog 122 0 = some 0 ∧
  fieldOff Try.prog 122 1 = some 10 ∧
  placesS Try.prog 122 = some [(0, 10), (10, 1)] ∧
  zeroC Try.prog 122 = some [.int .i64 0, .int .i64 0, .bool false, .int .i64 0, .int .i64 0, .string ByteArray.empty, .int .i64 0, .int .i64 0, .slice none 0 0, .slice none 0 0, .bool false] ∧
  tyS Try.prog 123 = .one ∧
  tyS Try.prog 124 = .one ∧
  tyS Try.prog 125 = .one ∧
  tyS Try.prog 126 = .one ∧
  tyS Try.prog 127 = .one ∧
  tyS Try.prog 128 = .one ∧
  tyS Try.prog 129 = .one ∧
  tyS Try.prog 130 = .one ∧
  tyS Try.prog 131 = .one ∧
  tyS Try.prog 132 = .one ∧
  tyS Try.prog 133 = .one ∧
  tyS Try.prog 134 = .one) ∧
  (tyS Try.prog 135 = .one ∧
  elemS Try.prog 135 = some (46, 3, 32) ∧
  lenK Try.prog 135 = 1 ∧
  zeroOk Try.prog 135 = true ∧
  zeroC Try.prog 135 = some [.slice none 0 0] ∧
  tyS Try.prog 136 = .one ∧
  tyS Try.prog 137 = .one ∧
  elemS Try.prog 137 = some (40, 3, 32) ∧
  lenK Try.prog 137 = 1 ∧
  zeroOk Try.prog 137 = true ∧
  zeroC Try.prog 137 = some [.slice none 0 0] ∧
  tyS Try.prog 138 = .one ∧
  tyS Try.prog 139 = .one ∧
  tyS Try.prog 140 = .agg 3 ∧
  fieldOff Try.prog 140 0 = some 0 ∧
  fieldOff Try.prog 140 1 = some 1 ∧
  fieldOff Try.prog 140 2 = some 2 ∧
  placesS Try.prog 140 = some [(0, 1), (1, 1), (2, 1)] ∧
  zeroC Try.prog 140 = some [.slice none 0 0, .int .i64 0, .int .i64 0] ∧
  tyS Try.prog 141 = .agg 3 ∧
  fieldOff Try.prog 141 0 = some 0 ∧
  fieldOff Try.prog 141 1 = some 1 ∧
  fieldOff Try.prog 141 2 = some 2 ∧
  placesS Try.prog 141 = some [(0, 1), (1, 1), (2, 1)] ∧
  zeroC Try.prog 141 = some [.slice none 0 0, .int .i64 0, .int .i64 0]) ∧
  (tyS Try.prog 142 = .one ∧
  tyS Try.prog 143 = .one ∧
  tyS Try.prog 145 = .one ∧
  tyS Try.prog 146 = .one ∧
  tyS Try.prog 147 = .one ∧
  elemS Try.prog 147 = some (174, 2, 40) ∧
  lenK Try.prog 147 = 1 ∧
  zeroOk Try.prog 147 = true ∧
  zeroC Try.prog 147 = some [.slice none 0 0] ∧
  tyS Try.prog 148 = .agg 1 ∧
  fieldOff Try.prog 148 0 = some 0 ∧
  placesS Try.prog 148 = some [(0, 1)] ∧
  zeroC Try.prog 148 = some [.slice none 0 0] ∧
  tyS Try.prog 149 = .agg 1 ∧
  fieldOff Try.prog 149 0 = some 0 ∧
  placesS Try.prog 149 = some [(0, 1)] ∧
  zeroC Try.prog 149 = some [.slice none 0 0] ∧
  tyS Try.prog 150 = .one ∧
  tyS Try.prog 151 = .one ∧
  elemS Try.prog 151 = some (64, 1, 24) ∧
  lenK Try.prog 151 = 1 ∧
  zeroOk Try.prog 151 = true ∧
  zeroC Try.prog 151 = some [.slice none 0 0] ∧
  tyS Try.prog 152 = .one ∧
  tyS Try.prog 153 = .one) ∧
  (tyS Try.prog 154 = .one ∧
  tyS Try.prog 155 = .one ∧
  tyS Try.prog 156 = .one ∧
  tyS Try.prog 157 = .one ∧
  tyS Try.prog 158 = .one ∧
  tyS Try.prog 159 = .one ∧
  tyS Try.prog 160 = .one ∧
  tyS Try.prog 161 = .one ∧
  tyS Try.prog 162 = .agg 11 ∧
  fieldOff Try.prog 162 0 = some 0 ∧
  fieldOff Try.prog 162 1 = some 10 ∧
  placesS Try.prog 162 = some [(0, 10), (10, 1)] ∧
  zeroC Try.prog 162 = some [.int .i64 0, .int .i64 0, .bool false, .int .i64 0, .int .i64 0, .string ByteArray.empty, .int .i64 0, .int .i64 0, .slice none 0 0, .slice none 0 0, .bool false] ∧
  tyS Try.prog 163 = .agg 11 ∧
  fieldOff Try.prog 163 0 = some 0 ∧
  fieldOff Try.prog 163 1 = some 10 ∧
  placesS Try.prog 163 = some [(0, 10), (10, 1)] ∧
  zeroC Try.prog 163 = some [.int .i64 0, .int .i64 0, .bool false, .int .i64 0, .int .i64 0, .string ByteArray.empty, .int .i64 0, .int .i64 0, .slice none 0 0, .slice none 0 0, .bool false] ∧
  tyS Try.prog 164 = .one ∧
  tyS Try.prog 165 = .one ∧
  tyS Try.prog 166 = .one ∧
  zeroC Try.prog 166 = some [.int .u64 0] ∧
  tyS Try.prog 167 = .one ∧
  tyS Try.prog 168 = .one ∧
  tyS Try.prog 169 = .one) ∧
  (tyS Try.prog 170 = .one ∧
  tyS Try.prog 171 = .one ∧
  tyS Try.prog 172 = .one ∧
  elemS Try.prog 172 = some (176, 2, 24) ∧
  lenK Try.prog 172 = 1 ∧
  zeroOk Try.prog 172 = true ∧
  zeroC Try.prog 172 = some [.slice none 0 0] ∧
  tyS Try.prog 173 = .agg 2 ∧
  fieldOff Try.prog 173 0 = some 0 ∧
  fieldOff Try.prog 173 1 = some 1 ∧
  placesS Try.prog 173 = some [(0, 1), (1, 1)] ∧
  zeroC Try.prog 173 = some [.string ByteArray.empty, .slice none 0 0] ∧
  tyS Try.prog 174 = .agg 2 ∧
  fieldOff Try.prog 174 0 = some 0 ∧
  fieldOff Try.prog 174 1 = some 1 ∧
  placesS Try.prog 174 = some [(0, 1), (1, 1)] ∧
  zeroC Try.prog 174 = some [.string ByteArray.empty, .slice none 0 0] ∧
  tyS Try.prog 175 = .agg 2 ∧
  fieldOff Try.prog 175 0 = some 0 ∧
  fieldOff Try.prog 175 1 = some 1 ∧
  placesS Try.prog 175 = some [(0, 1), (1, 1)] ∧
  zeroC Try.prog 175 = some [.string ByteArray.empty, .int .i64 0] ∧
  tyS Try.prog 176 = .agg 2 ∧
  fieldOff Try.prog 176 0 = some 0 ∧
  fieldOff Try.prog 176 1 = some 1) ∧
  (placesS Try.prog 176 = some [(0, 1), (1, 1)] ∧
  zeroC Try.prog 176 = some [.string ByteArray.empty, .int .i64 0] ∧
  tyS Try.prog 177 = .one ∧
  tyS Try.prog 178 = .one ∧
  tyS Try.prog 179 = .one ∧
  tyS Try.prog 180 = .one ∧
  tyS Try.prog 182 = .one ∧
  tyS Try.prog 183 = .one ∧
  tyS Try.prog 184 = .one ∧
  tyS Try.prog 185 = .one ∧
  tyS Try.prog 186 = .one ∧
  tyS Try.prog 192 = .one ∧
  tyS Try.prog 193 = .one ∧
  zeroC Try.prog 193 = some [.int .u32 0] ∧
  tyS Try.prog 196 = .one ∧
  tyS Try.prog 197 = .one ∧
  zeroC Try.prog 197 = some [.pointer none] ∧
  tyS Try.prog 202 = .one) :=
  ⟨tb0, tb1, tb2, tb3, tb4, tb5, tb6, tb7, tb8, tb9, tb10, tb11, tb12, tb13, tb14, tb15, tb16, tb17⟩
theorem tbl : (tyS Try.prog 1 = .one ∧
  tyS Try.prog 2 = .one ∧
  zeroC Try.prog 2 = some [.int .i64 0] ∧
  tyS Try.prog 3 = .one ∧
  zeroC Try.prog 3 = some [.int .i64 0] ∧
  tyS Try.prog 4 = .one ∧
  Try.prog.underlying 4 = some .bool ∧
  zeroC Try.prog 4 = some [.bool false] ∧
  tyS Try.prog 5 = .one ∧
  zeroC Try.prog 5 = some [.int .u8 0] ∧
  tyS Try.prog 9 = .one ∧
  lenK Try.prog 9 = 2 ∧
  zeroC Try.prog 9 = some [.string ByteArray.empty] ∧
  tyS Try.prog 12 = .one ∧
  zeroC Try.prog 12 = some [.int .u64 0] ∧
  tyS Try.prog 13 = .agg 2 ∧
  fieldOff Try.prog 13 0 = some 0 ∧
  fieldOff Try.prog 13 1 = some 1 ∧
  placesS Try.prog 13 = some [(0, 1), (1, 1)] ∧
  zeroC Try.prog 13 = some [.string ByteArray.empty, .int .u64 0] ∧
  tyS Try.prog 21 = .one ∧
  zeroC Try.prog 21 = some [.int .i32 0] ∧
  tyS Try.prog 22 = .one ∧
  tyS Try.prog 23 = .one ∧
  tyS Try.prog 24 = .agg 2) ∧
  (fieldOff Try.prog 24 0 = some 0 ∧
  fieldOff Try.prog 24 1 = some 1 ∧
  placesS Try.prog 24 = some [(0, 1), (1, 1)] ∧
  zeroC Try.prog 24 = some [.int .i64 0, .string ByteArray.empty] ∧
  tyS Try.prog 25 = .agg 2 ∧
  fieldOff Try.prog 25 0 = some 0 ∧
  fieldOff Try.prog 25 1 = some 1 ∧
  placesS Try.prog 25 = some [(0, 1), (1, 1)] ∧
  zeroC Try.prog 25 = some [.int .i64 0, .string ByteArray.empty] ∧
  tyS Try.prog 26 = .one ∧
  elemS Try.prog 26 = some (135, 1, 24) ∧
  lenK Try.prog 26 = 1 ∧
  zeroOk Try.prog 26 = true ∧
  zeroC Try.prog 26 = some [.slice none 0 0] ∧
  tyS Try.prog 27 = .agg 5 ∧
  fieldOff Try.prog 27 0 = some 0 ∧
  fieldOff Try.prog 27 1 = some 2 ∧
  fieldOff Try.prog 27 2 = some 3 ∧
  fieldOff Try.prog 27 3 = some 4 ∧
  placesS Try.prog 27 = some [(0, 2), (2, 1), (3, 1), (4, 1)] ∧
  zeroC Try.prog 27 = some [.int .i64 0, .string ByteArray.empty, .int .i64 0, .slice none 0 0, .int .i64 0] ∧
  tyS Try.prog 28 = .agg 5 ∧
  fieldOff Try.prog 28 0 = some 0 ∧
  fieldOff Try.prog 28 1 = some 2 ∧
  fieldOff Try.prog 28 2 = some 3) ∧
  (fieldOff Try.prog 28 3 = some 4 ∧
  placesS Try.prog 28 = some [(0, 2), (2, 1), (3, 1), (4, 1)] ∧
  zeroC Try.prog 28 = some [.int .i64 0, .string ByteArray.empty, .int .i64 0, .slice none 0 0, .int .i64 0] ∧
  tyS Try.prog 29 = .one ∧
  tyS Try.prog 30 = .one ∧
  tyS Try.prog 31 = .agg 2 ∧
  fieldOff Try.prog 31 0 = some 0 ∧
  fieldOff Try.prog 31 1 = some 1 ∧
  placesS Try.prog 31 = some [(0, 1), (1, 1)] ∧
  zeroC Try.prog 31 = some [.int .i64 0, .string ByteArray.empty] ∧
  tyS Try.prog 32 = .one ∧
  elemS Try.prog 32 = some (137, 1, 24) ∧
  lenK Try.prog 32 = 1 ∧
  zeroOk Try.prog 32 = true ∧
  zeroC Try.prog 32 = some [.slice none 0 0] ∧
  tyS Try.prog 33 = .agg 5 ∧
  fieldOff Try.prog 33 0 = some 0 ∧
  fieldOff Try.prog 33 1 = some 2 ∧
  fieldOff Try.prog 33 2 = some 3 ∧
  fieldOff Try.prog 33 3 = some 4 ∧
  placesS Try.prog 33 = some [(0, 2), (2, 1), (3, 1), (4, 1)] ∧
  zeroC Try.prog 33 = some [.int .i64 0, .string ByteArray.empty, .int .i64 0, .slice none 0 0, .int .i64 0] ∧
  tyS Try.prog 34 = .agg 5 ∧
  fieldOff Try.prog 34 0 = some 0 ∧
  fieldOff Try.prog 34 1 = some 2) ∧
  (fieldOff Try.prog 34 2 = some 3 ∧
  fieldOff Try.prog 34 3 = some 4 ∧
  placesS Try.prog 34 = some [(0, 2), (2, 1), (3, 1), (4, 1)] ∧
  zeroC Try.prog 34 = some [.int .i64 0, .string ByteArray.empty, .int .i64 0, .slice none 0 0, .int .i64 0] ∧
  tyS Try.prog 35 = .one ∧
  tyS Try.prog 36 = .one ∧
  tyS Try.prog 37 = .one ∧
  elemS Try.prog 37 = some (5, 1, 1) ∧
  lenK Try.prog 37 = 1 ∧
  zeroOk Try.prog 37 = true ∧
  zeroC Try.prog 37 = some [.slice none 0 0] ∧
  tyS Try.prog 38 = .one ∧
  tyS Try.prog 39 = .agg 3 ∧
  fieldOff Try.prog 39 0 = some 0 ∧
  fieldOff Try.prog 39 1 = some 1 ∧
  fieldOff Try.prog 39 2 = some 2 ∧
  placesS Try.prog 39 = some [(0, 1), (1, 1), (2, 1)] ∧
  zeroC Try.prog 39 = some [.int .i64 0, .int .i64 0, .string ByteArray.empty] ∧
  tyS Try.prog 40 = .agg 3 ∧
  fieldOff Try.prog 40 0 = some 0 ∧
  fieldOff Try.prog 40 1 = some 1 ∧
  fieldOff Try.prog 40 2 = some 2 ∧
  placesS Try.prog 40 = some [(0, 1), (1, 1), (2, 1)] ∧
  zeroC Try.prog 40 = some [.int .i64 0, .int .i64 0, .string ByteArray.empty] ∧
  tyS Try.prog 42 = .one) ∧
  (tyS Try.prog 44 = .one ∧
  tyS Try.prog 45 = .one ∧
  tyS Try.prog 46 = .agg 3 ∧
  fieldOff Try.prog 46 0 = some 0 ∧
  fieldOff Try.prog 46 1 = some 1 ∧
  fieldOff Try.prog 46 2 = some 2 ∧
  placesS Try.prog 46 = some [(0, 1), (1, 1), (2, 1)] ∧
  zeroC Try.prog 46 = some [.int .i64 0, .int .i64 0, .string ByteArray.empty] ∧
  tyS Try.prog 47 = .one ∧
  elemS Try.prog 47 = some (50, 10, 120) ∧
  lenK Try.prog 47 = 1 ∧
  zeroOk Try.prog 47 = true ∧
  zeroC Try.prog 47 = some [.slice none 0 0] ∧
  tyS Try.prog 48 = .one ∧
  elemS Try.prog 48 = some (69, 8, 160) ∧
  lenK Try.prog 48 = 1 ∧
  zeroOk Try.prog 48 = true ∧
  zeroC Try.prog 48 = some [.slice none 0 0] ∧
  tyS Try.prog 49 = .agg 10 ∧
  fieldOff Try.prog 49 0 = some 0 ∧
  fieldOff Try.prog 49 1 = some 1 ∧
  fieldOff Try.prog 49 2 = some 2 ∧
  fieldOff Try.prog 49 3 = some 3 ∧
  fieldOff Try.prog 49 4 = some 6 ∧
  fieldOff Try.prog 49 5 = some 7) ∧
  (fieldOff Try.prog 49 6 = some 8 ∧
  fieldOff Try.prog 49 7 = some 9 ∧
  placesS Try.prog 49 = some [(0, 1), (1, 1), (2, 1), (3, 3), (6, 1), (7, 1), (8, 1), (9, 1)] ∧
  zeroC Try.prog 49 = some [.int .i64 0, .int .i64 0, .bool false, .int .i64 0, .int .i64 0, .string ByteArray.empty, .int .i64 0, .int .i64 0, .slice none 0 0, .slice none 0 0] ∧
  tyS Try.prog 50 = .agg 10 ∧
  fieldOff Try.prog 50 0 = some 0 ∧
  fieldOff Try.prog 50 1 = some 1 ∧
  fieldOff Try.prog 50 2 = some 2 ∧
  fieldOff Try.prog 50 3 = some 3 ∧
  fieldOff Try.prog 50 4 = some 6 ∧
  fieldOff Try.prog 50 5 = some 7 ∧
  fieldOff Try.prog 50 6 = some 8 ∧
  fieldOff Try.prog 50 7 = some 9 ∧
  placesS Try.prog 50 = some [(0, 1), (1, 1), (2, 1), (3, 3), (6, 1), (7, 1), (8, 1), (9, 1)] ∧
  zeroC Try.prog 50 = some [.int .i64 0, .int .i64 0, .bool false, .int .i64 0, .int .i64 0, .string ByteArray.empty, .int .i64 0, .int .i64 0, .slice none 0 0, .slice none 0 0] ∧
  tyS Try.prog 51 = .one ∧
  tyS Try.prog 52 = .one ∧
  tyS Try.prog 53 = .one ∧
  elemS Try.prog 53 = some (56, 10, 120) ∧
  lenK Try.prog 53 = 1 ∧
  zeroOk Try.prog 53 = true ∧
  zeroC Try.prog 53 = some [.slice none 0 0] ∧
  tyS Try.prog 54 = .one ∧
  elemS Try.prog 54 = some (74, 8, 160) ∧
  lenK Try.prog 54 = 1) ∧
  (zeroOk Try.prog 54 = true ∧
  zeroC Try.prog 54 = some [.slice none 0 0] ∧
  tyS Try.prog 55 = .agg 10 ∧
  fieldOff Try.prog 55 0 = some 0 ∧
  fieldOff Try.prog 55 1 = some 1 ∧
  fieldOff Try.prog 55 2 = some 2 ∧
  fieldOff Try.prog 55 3 = some 3 ∧
  fieldOff Try.prog 55 4 = some 6 ∧
  fieldOff Try.prog 55 5 = some 7 ∧
  fieldOff Try.prog 55 6 = some 8 ∧
  fieldOff Try.prog 55 7 = some 9 ∧
  placesS Try.prog 55 = some [(0, 1), (1, 1), (2, 1), (3, 3), (6, 1), (7, 1), (8, 1), (9, 1)] ∧
  zeroC Try.prog 55 = some [.int .i64 0, .int .i64 0, .bool false, .int .i64 0, .int .i64 0, .string ByteArray.empty, .int .i64 0, .int .i64 0, .slice none 0 0, .slice none 0 0] ∧
  tyS Try.prog 56 = .agg 10 ∧
  fieldOff Try.prog 56 0 = some 0 ∧
  fieldOff Try.prog 56 1 = some 1 ∧
  fieldOff Try.prog 56 2 = some 2 ∧
  fieldOff Try.prog 56 3 = some 3 ∧
  fieldOff Try.prog 56 4 = some 6 ∧
  fieldOff Try.prog 56 5 = some 7 ∧
  fieldOff Try.prog 56 6 = some 8 ∧
  fieldOff Try.prog 56 7 = some 9 ∧
  placesS Try.prog 56 = some [(0, 1), (1, 1), (2, 1), (3, 3), (6, 1), (7, 1), (8, 1), (9, 1)] ∧
  zeroC Try.prog 56 = some [.int .i64 0, .int .i64 0, .bool false, .int .i64 0, .int .i64 0, .string ByteArray.empty, .int .i64 0, .int .i64 0, .slice none 0 0, .slice none 0 0] ∧
  tyS Try.prog 57 = .one) ∧
  (tyS Try.prog 58 = .one ∧
  tyS Try.prog 59 = .one ∧
  tyS Try.prog 60 = .one ∧
  tyS Try.prog 61 = .one ∧
  tyS Try.prog 62 = .one ∧
  tyS Try.prog 63 = .one ∧
  tyS Try.prog 64 = .one ∧
  elemS Try.prog 64 = some (3, 1, 8) ∧
  lenK Try.prog 64 = 1 ∧
  zeroOk Try.prog 64 = true ∧
  zeroC Try.prog 64 = some [.slice none 0 0] ∧
  tyS Try.prog 65 = .one ∧
  elemS Try.prog 65 = some (47, 1, 24) ∧
  lenK Try.prog 65 = 1 ∧
  zeroOk Try.prog 65 = true ∧
  zeroC Try.prog 65 = some [.slice none 0 0] ∧
  tyS Try.prog 66 = .one ∧
  elemS Try.prog 66 = some (163, 11, 128) ∧
  lenK Try.prog 66 = 1 ∧
  zeroOk Try.prog 66 = true ∧
  zeroC Try.prog 66 = some [.slice none 0 0] ∧
  tyS Try.prog 67 = .one ∧
  elemS Try.prog 67 = some (9, 1, 16) ∧
  lenK Try.prog 67 = 1 ∧
  zeroOk Try.prog 67 = true) ∧
  (zeroC Try.prog 67 = some [.slice none 0 0] ∧
  tyS Try.prog 68 = .agg 8 ∧
  fieldOff Try.prog 68 0 = some 0 ∧
  fieldOff Try.prog 68 1 = some 1 ∧
  fieldOff Try.prog 68 2 = some 2 ∧
  fieldOff Try.prog 68 3 = some 3 ∧
  fieldOff Try.prog 68 4 = some 4 ∧
  fieldOff Try.prog 68 5 = some 5 ∧
  fieldOff Try.prog 68 6 = some 6 ∧
  fieldOff Try.prog 68 7 = some 7 ∧
  placesS Try.prog 68 = some [(0, 1), (1, 1), (2, 1), (3, 1), (4, 1), (5, 1), (6, 1), (7, 1)] ∧
  zeroC Try.prog 68 = some [.slice none 0 0, .slice none 0 0, .slice none 0 0, .slice none 0 0, .slice none 0 0, .slice none 0 0, .bool false, .int .i64 0] ∧
  tyS Try.prog 69 = .agg 8 ∧
  fieldOff Try.prog 69 0 = some 0 ∧
  fieldOff Try.prog 69 1 = some 1 ∧
  fieldOff Try.prog 69 2 = some 2 ∧
  fieldOff Try.prog 69 3 = some 3 ∧
  fieldOff Try.prog 69 4 = some 4 ∧
  fieldOff Try.prog 69 5 = some 5 ∧
  fieldOff Try.prog 69 6 = some 6 ∧
  fieldOff Try.prog 69 7 = some 7 ∧
  placesS Try.prog 69 = some [(0, 1), (1, 1), (2, 1), (3, 1), (4, 1), (5, 1), (6, 1), (7, 1)] ∧
  zeroC Try.prog 69 = some [.slice none 0 0, .slice none 0 0, .slice none 0 0, .slice none 0 0, .slice none 0 0, .slice none 0 0, .bool false, .int .i64 0] ∧
  tyS Try.prog 70 = .one ∧
  tyS Try.prog 71 = .one) ∧
  (elemS Try.prog 71 = some (53, 1, 24) ∧
  lenK Try.prog 71 = 1 ∧
  zeroOk Try.prog 71 = true ∧
  zeroC Try.prog 71 = some [.slice none 0 0] ∧
  tyS Try.prog 72 = .one ∧
  elemS Try.prog 72 = some (122, 11, 128) ∧
  lenK Try.prog 72 = 1 ∧
  zeroOk Try.prog 72 = true ∧
  zeroC Try.prog 72 = some [.slice none 0 0] ∧
  tyS Try.prog 73 = .agg 8 ∧
  fieldOff Try.prog 73 0 = some 0 ∧
  fieldOff Try.prog 73 1 = some 1 ∧
  fieldOff Try.prog 73 2 = some 2 ∧
  fieldOff Try.prog 73 3 = some 3 ∧
  fieldOff Try.prog 73 4 = some 4 ∧
  fieldOff Try.prog 73 5 = some 5 ∧
  fieldOff Try.prog 73 6 = some 6 ∧
  fieldOff Try.prog 73 7 = some 7 ∧
  placesS Try.prog 73 = some [(0, 1), (1, 1), (2, 1), (3, 1), (4, 1), (5, 1), (6, 1), (7, 1)] ∧
  zeroC Try.prog 73 = some [.slice none 0 0, .slice none 0 0, .slice none 0 0, .slice none 0 0, .slice none 0 0, .slice none 0 0, .bool false, .int .i64 0] ∧
  tyS Try.prog 74 = .agg 8 ∧
  fieldOff Try.prog 74 0 = some 0 ∧
  fieldOff Try.prog 74 1 = some 1 ∧
  fieldOff Try.prog 74 2 = some 2 ∧
  fieldOff Try.prog 74 3 = some 3) ∧
  (fieldOff Try.prog 74 4 = some 4 ∧
  fieldOff Try.prog 74 5 = some 5 ∧
  fieldOff Try.prog 74 6 = some 6 ∧
  fieldOff Try.prog 74 7 = some 7 ∧
  placesS Try.prog 74 = some [(0, 1), (1, 1), (2, 1), (3, 1), (4, 1), (5, 1), (6, 1), (7, 1)] ∧
  zeroC Try.prog 74 = some [.slice none 0 0, .slice none 0 0, .slice none 0 0, .slice none 0 0, .slice none 0 0, .slice none 0 0, .bool false, .int .i64 0] ∧
  tyS Try.prog 75 = .one ∧
  tyS Try.prog 76 = .one ∧
  tyS Try.prog 77 = .one ∧
  tyS Try.prog 78 = .one ∧
  tyS Try.prog 79 = .one ∧
  tyS Try.prog 80 = .one ∧
  tyS Try.prog 81 = .one ∧
  tyS Try.prog 82 = .one ∧
  tyS Try.prog 83 = .one ∧
  tyS Try.prog 84 = .one ∧
  tyS Try.prog 85 = .one ∧
  tyS Try.prog 86 = .one ∧
  tyS Try.prog 87 = .one ∧
  zeroC Try.prog 87 = some [.pointer none] ∧
  tyS Try.prog 88 = .one ∧
  tyS Try.prog 89 = .one ∧
  tyS Try.prog 90 = .one ∧
  tyS Try.prog 91 = .one ∧
  tyS Try.prog 92 = .one) ∧
  (tyS Try.prog 93 = .one ∧
  tyS Try.prog 94 = .one ∧
  tyS Try.prog 95 = .one ∧
  tyS Try.prog 96 = .one ∧
  tyS Try.prog 97 = .one ∧
  tyS Try.prog 98 = .one ∧
  tyS Try.prog 99 = .one ∧
  tyS Try.prog 100 = .one ∧
  tyS Try.prog 101 = .one ∧
  tyS Try.prog 102 = .one ∧
  tyS Try.prog 103 = .one ∧
  tyS Try.prog 104 = .one ∧
  tyS Try.prog 105 = .one ∧
  tyS Try.prog 106 = .one ∧
  tyS Try.prog 107 = .one ∧
  tyS Try.prog 108 = .one ∧
  tyS Try.prog 109 = .one ∧
  tyS Try.prog 110 = .one ∧
  tyS Try.prog 111 = .one ∧
  tyS Try.prog 112 = .one ∧
  tyS Try.prog 113 = .one ∧
  tyS Try.prog 114 = .one ∧
  tyS Try.prog 115 = .one ∧
  tyS Try.prog 116 = .one ∧
  tyS Try.prog 117 = .one) ∧
  (tyS Try.prog 118 = .one ∧
  tyS Try.prog 119 = .one ∧
  tyS Try.prog 120 = .one ∧
  tyS Try.prog 121 = .agg 11 ∧
  fieldOff Try.prog 121 0 = some 0 ∧
  fieldOff Try.prog 121 1 = some 10 ∧
  placesS Try.prog 121 = some [(0, 10), (10, 1)] ∧
  zeroC Try.prog 121 = some [.int .i64 0, .int .i64 0, .bool false, .int .i64 0, .int .i64 0, .string ByteArray.empty, .int .i64 0, .int .i64 0, .slice none 0 0, .slice none 0 0, .bool false] ∧
  tyS Try.prog 122 = .agg 11 ∧
  fieldOff Try.prog 122 0 = some 0 ∧
  fieldOff Try.prog 122 1 = some 10 ∧
  placesS Try.prog 122 = some [(0, 10), (10, 1)] ∧
  zeroC Try.prog 122 = some [.int .i64 0, .int .i64 0, .bool false, .int .i64 0, .int .i64 0, .string ByteArray.empty, .int .i64 0, .int .i64 0, .slice none 0 0, .slice none 0 0, .bool false] ∧
  tyS Try.prog 123 = .one ∧
  tyS Try.prog 124 = .one ∧
  tyS Try.prog 125 = .one ∧
  tyS Try.prog 126 = .one ∧
  tyS Try.prog 127 = .one ∧
  tyS Try.prog 128 = .one ∧
  tyS Try.prog 129 = .one ∧
  tyS Try.prog 130 = .one ∧
  tyS Try.prog 131 = .one ∧
  tyS Try.prog 132 = .one ∧
  tyS Try.prog 133 = .one ∧
  tyS Try.prog 134 = .one) ∧
  (tyS Try.prog 135 = .one ∧
  elemS Try.prog 135 = some (46, 3, 32) ∧
  lenK Try.prog 135 = 1 ∧
  zeroOk Try.prog 135 = true ∧
  zeroC Try.prog 135 = some [.slice none 0 0] ∧
  tyS Try.prog 136 = .one ∧
  tyS Try.prog 137 = .one ∧
  elemS Try.prog 137 = some (40, 3, 32) ∧
  lenK Try.prog 137 = 1 ∧
  zeroOk Try.prog 137 = true ∧
  zeroC Try.prog 137 = some [.slice none 0 0] ∧
  tyS Try.prog 138 = .one ∧
  tyS Try.prog 139 = .one ∧
  tyS Try.prog 140 = .agg 3 ∧
  fieldOff Try.prog 140 0 = some 0 ∧
  fieldOff Try.prog 140 1 = some 1 ∧
  fieldOff Try.prog 140 2 = some 2 ∧
  placesS Try.prog 140 = some [(0, 1), (1, 1), (2, 1)] ∧
  zeroC Try.prog 140 = some [.slice none 0 0, .int .i64 0, .int .i64 0] ∧
  tyS Try.prog 141 = .agg 3 ∧
  fieldOff Try.prog 141 0 = some 0 ∧
  fieldOff Try.prog 141 1 = some 1 ∧
  fieldOff Try.prog 141 2 = some 2 ∧
  placesS Try.prog 141 = some [(0, 1), (1, 1), (2, 1)] ∧
  zeroC Try.prog 141 = some [.slice none 0 0, .int .i64 0, .int .i64 0]) ∧
  (tyS Try.prog 142 = .one ∧
  tyS Try.prog 143 = .one ∧
  tyS Try.prog 145 = .one ∧
  tyS Try.prog 146 = .one ∧
  tyS Try.prog 147 = .one ∧
  elemS Try.prog 147 = some (174, 2, 40) ∧
  lenK Try.prog 147 = 1 ∧
  zeroOk Try.prog 147 = true ∧
  zeroC Try.prog 147 = some [.slice none 0 0] ∧
  tyS Try.prog 148 = .agg 1 ∧
  fieldOff Try.prog 148 0 = some 0 ∧
  placesS Try.prog 148 = some [(0, 1)] ∧
  zeroC Try.prog 148 = some [.slice none 0 0] ∧
  tyS Try.prog 149 = .agg 1 ∧
  fieldOff Try.prog 149 0 = some 0 ∧
  placesS Try.prog 149 = some [(0, 1)] ∧
  zeroC Try.prog 149 = some [.slice none 0 0] ∧
  tyS Try.prog 150 = .one ∧
  tyS Try.prog 151 = .one ∧
  elemS Try.prog 151 = some (64, 1, 24) ∧
  lenK Try.prog 151 = 1 ∧
  zeroOk Try.prog 151 = true ∧
  zeroC Try.prog 151 = some [.slice none 0 0] ∧
  tyS Try.prog 152 = .one ∧
  tyS Try.prog 153 = .one) ∧
  (tyS Try.prog 154 = .one ∧
  tyS Try.prog 155 = .one ∧
  tyS Try.prog 156 = .one ∧
  tyS Try.prog 157 = .one ∧
  tyS Try.prog 158 = .one ∧
  tyS Try.prog 159 = .one ∧
  tyS Try.prog 160 = .one ∧
  tyS Try.prog 161 = .one ∧
  tyS Try.prog 162 = .agg 11 ∧
  fieldOff Try.prog 162 0 = some 0 ∧
  fieldOff Try.prog 162 1 = some 10 ∧
  placesS Try.prog 162 = some [(0, 10), (10, 1)] ∧
  zeroC Try.prog 162 = some [.int .i64 0, .int .i64 0, .bool false, .int .i64 0, .int .i64 0, .string ByteArray.empty, .int .i64 0, .int .i64 0, .slice none 0 0, .slice none 0 0, .bool false] ∧
  tyS Try.prog 163 = .agg 11 ∧
  fieldOff Try.prog 163 0 = some 0 ∧
  fieldOff Try.prog 163 1 = some 10 ∧
  placesS Try.prog 163 = some [(0, 10), (10, 1)] ∧
  zeroC Try.prog 163 = some [.int .i64 0, .int .i64 0, .bool false, .int .i64 0, .int .i64 0, .string ByteArray.empty, .int .i64 0, .int .i64 0, .slice none 0 0, .slice none 0 0, .bool false] ∧
  tyS Try.prog 164 = .one ∧
  tyS Try.prog 165 = .one ∧
  tyS Try.prog 166 = .one ∧
  zeroC Try.prog 166 = some [.int .u64 0] ∧
  tyS Try.prog 167 = .one ∧
  tyS Try.prog 168 = .one ∧
  tyS Try.prog 169 = .one) ∧
  (tyS Try.prog 170 = .one ∧
  tyS Try.prog 171 = .one ∧
  tyS Try.prog 172 = .one ∧
  elemS Try.prog 172 = some (176, 2, 24) ∧
  lenK Try.prog 172 = 1 ∧
  zeroOk Try.prog 172 = true ∧
  zeroC Try.prog 172 = some [.slice none 0 0] ∧
  tyS Try.prog 173 = .agg 2 ∧
  fieldOff Try.prog 173 0 = some 0 ∧
  fieldOff Try.prog 173 1 = some 1 ∧
  placesS Try.prog 173 = some [(0, 1), (1, 1)] ∧
  zeroC Try.prog 173 = some [.string ByteArray.empty, .slice none 0 0] ∧
  tyS Try.prog 174 = .agg 2 ∧
  fieldOff Try.prog 174 0 = some 0 ∧
  fieldOff Try.prog 174 1 = some 1 ∧
  placesS Try.prog 174 = some [(0, 1), (1, 1)] ∧
  zeroC Try.prog 174 = some [.string ByteArray.empty, .slice none 0 0] ∧
  tyS Try.prog 175 = .agg 2 ∧
  fieldOff Try.prog 175 0 = some 0 ∧
  fieldOff Try.prog 175 1 = some 1 ∧
  placesS Try.prog 175 = some [(0, 1), (1, 1)] ∧
  zeroC Try.prog 175 = some [.string ByteArray.empty, .int .i64 0] ∧
  tyS Try.prog 176 = .agg 2 ∧
  fieldOff Try.prog 176 0 = some 0 ∧
  fieldOff Try.prog 176 1 = some 1) ∧
  (placesS Try.prog 176 = some [(0, 1), (1, 1)] ∧
  zeroC Try.prog 176 = some [.string ByteArray.empty, .int .i64 0] ∧
  tyS Try.prog 177 = .one ∧
  tyS Try.prog 178 = .one ∧
  tyS Try.prog 179 = .one ∧
  tyS Try.prog 180 = .one ∧
  tyS Try.prog 182 = .one ∧
  tyS Try.prog 183 = .one ∧
  tyS Try.prog 184 = .one ∧
  tyS Try.prog 185 = .one ∧
  tyS Try.prog 186 = .one ∧
  tyS Try.prog 192 = .one ∧
  tyS Try.prog 193 = .one ∧
  zeroC Try.prog 193 = some [.int .u32 0] ∧
  tyS Try.prog 196 = .one ∧
  tyS Try.prog 197 = .one ∧
  zeroC Try.prog 197 = some [.pointer none] ∧
  tyS Try.prog 202 = .one) := tb18
end Go.Proofs.Ytklligemdfnimaa
