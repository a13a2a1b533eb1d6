/- Contracts of functions, facts of types, or the plain law behind one statement (own work): TF. Conditions: those told in each theorem. -/
import Derived.Test.YtdlahbagdkfgmaaDoorVB
import Derived.Test.YtdlahbagdkfgmaaDoorProg
import Derived.KernelRfl
set_option linter.all false
namespace Go.Proofs
open Go Go.V
-- the instance of 'Laid' stands in TG (strconv's powers of ten) or TN (nothing laid)
theorem tk2 : tk Tryd.prog 2 = some ⟨1, 8, [.int .i64 0], false, 2, false⟩ := by kernel_rfl
theorem ti2 : tInt Tryd.prog 2 = some .i64 := by kernel_rfl
theorem tk3 : tk Tryd.prog 3 = some ⟨1, 8, [.int .i64 0], false, 2, false⟩ := by kernel_rfl
theorem ti3 : tInt Tryd.prog 3 = some .i64 := by kernel_rfl
theorem tk4 : tk Tryd.prog 4 = some ⟨1, 1, [.bool false], false, 1, false⟩ := by kernel_rfl
theorem tk5 : tk Tryd.prog 5 = some ⟨1, 1, [.int .u8 0], false, 2, false⟩ := by kernel_rfl
theorem ti5 : tInt Tryd.prog 5 = some .u8 := by kernel_rfl
theorem tk9 : tk Tryd.prog 9 = some ⟨1, 16, [.string ⟨#[]⟩], false, 3, false⟩ := by kernel_rfl
theorem te9 : tElem Tryd.prog 9 = none := by kernel_rfl
theorem tk21 : tk Tryd.prog 21 = some ⟨1, 4, [.int .i32 0], false, 2, false⟩ := by kernel_rfl
theorem ti21 : tInt Tryd.prog 21 = some .i32 := by kernel_rfl
theorem tk23 : tk Tryd.prog 23 = some ⟨2, 32, [.string ⟨#[]⟩, .string ⟨#[]⟩], true, 6, true⟩ := by kernel_rfl
theorem tf23x0 : tField Tryd.prog 23 0 = some (0, 9) := by kernel_rfl
theorem tf23x1 : tField Tryd.prog 23 1 = some (1, 9) := by kernel_rfl
theorem tk26 : tk Tryd.prog 26 = some ⟨2, 32, [.string ⟨#[]⟩, .string ⟨#[]⟩], true, 6, true⟩ := by kernel_rfl
theorem tf26x0 : tField Tryd.prog 26 0 = some (0, 9) := by kernel_rfl
theorem tf26x1 : tField Tryd.prog 26 1 = some (1, 9) := by kernel_rfl
theorem tk41 : tk Tryd.prog 41 = some ⟨2, 24, [.string ⟨#[]⟩, .int .i64 0], true, 6, true⟩ := by kernel_rfl
theorem tf41x0 : tField Tryd.prog 41 0 = some (0, 9) := by kernel_rfl
theorem tf41x1 : tField Tryd.prog 41 1 = some (1, 3) := by kernel_rfl
theorem tk44 : tk Tryd.prog 44 = some ⟨2, 24, [.string ⟨#[]⟩, .int .i64 0], true, 6, true⟩ := by kernel_rfl
theorem tf44x0 : tField Tryd.prog 44 0 = some (0, 9) := by kernel_rfl
theorem tf44x1 : tField Tryd.prog 44 1 = some (1, 3) := by kernel_rfl
theorem tk47 : tk Tryd.prog 47 = some ⟨1, 24, [.slice none 0 0], false, 5, false⟩ := by kernel_rfl
theorem te47 : tElem Tryd.prog 47 = some 44 := by kernel_rfl
theorem tk52 : tk Tryd.prog 52 = some ⟨1, 24, [.slice none 0 0], false, 5, false⟩ := by kernel_rfl
theorem te52 : tElem Tryd.prog 52 = some 9 := by kernel_rfl
theorem tk57 : tk Tryd.prog 57 = some ⟨1, 24, [.slice none 0 0], false, 5, false⟩ := by kernel_rfl
theorem te57 : tElem Tryd.prog 57 = some 5 := by kernel_rfl
theorem tk71 : tk Tryd.prog 71 = some ⟨1, 8, [.nilFunc], false, 8, false⟩ := by kernel_rfl
theorem tk81 : tk Tryd.prog 81 = some ⟨1, 8, [.pointer none], false, 4, false⟩ := by kernel_rfl
theorem tk82 : tk Tryd.prog 82 = some ⟨1, 8, [.int .u64 0], false, 2, false⟩ := by kernel_rfl
theorem ti82 : tInt Tryd.prog 82 = some .u64 := by kernel_rfl
theorem tk84 : tk Tryd.prog 84 = some ⟨3, 40, [.slice none 0 0, .int .i64 0, .int .u64 0], true, 6, true⟩ := by kernel_rfl
theorem tf84x0 : tField Tryd.prog 84 0 = some (0, 57) := by kernel_rfl
theorem tf84x1 : tField Tryd.prog 84 1 = some (1, 3) := by kernel_rfl
theorem tf84x2 : tField Tryd.prog 84 2 = some (2, 82) := by kernel_rfl
theorem tk90 : tk Tryd.prog 90 = some ⟨1, 24, [.slice none 0 0], false, 5, false⟩ := by kernel_rfl
theorem te90 : tElem Tryd.prog 90 = some 3 := by kernel_rfl
theorem tk101 : tk Tryd.prog 101 = some ⟨1, 8, [.int .u64 0], false, 2, false⟩ := by kernel_rfl
theorem ti101 : tInt Tryd.prog 101 = some .u64 := by kernel_rfl
theorem tk109 : tk Tryd.prog 109 = some ⟨256, 256, List.replicate 256 (.bool false), true, 9, false⟩ := by kernel_rfl
theorem ta109 : tArr Tryd.prog 109 = some (256, 4) := by kernel_rfl
theorem tk113 : tk Tryd.prog 113 = some ⟨1, 8, [.pointer none], false, 4, false⟩ := by kernel_rfl
theorem tk115 : tk Tryd.prog 115 = some ⟨1, 8, [.int .i64 0], false, 2, false⟩ := by kernel_rfl
theorem ti115 : tInt Tryd.prog 115 = some .i64 := by kernel_rfl
theorem tk122 : tk Tryd.prog 122 = some ⟨1, 4, [.int .u32 0], false, 2, false⟩ := by kernel_rfl
theorem ti122 : tInt Tryd.prog 122 = some .u32 := by kernel_rfl
theorem tk130 : tk Tryd.prog 130 = some ⟨1, 8, [.int .u64 0], false, 2, false⟩ := by kernel_rfl
theorem ti130 : tInt Tryd.prog 130 = some .u64 := by kernel_rfl
theorem tk134 : tk Tryd.prog 134 = some ⟨1, 8, [.pointer none], false, 4, false⟩ := by kernel_rfl
theorem tk140 : tk Tryd.prog 140 = some ⟨24, 24, List.replicate 24 (.int .u8 0), true, 9, false⟩ := by kernel_rfl
theorem ta140 : tArr Tryd.prog 140 = some (24, 5) := by kernel_rfl
theorem tk147 : tk Tryd.prog 147 = some ⟨256, 256, List.replicate 256 (.int .u8 0), true, 9, false⟩ := by kernel_rfl
theorem ta147 : tArr Tryd.prog 147 = some (256, 5) := by kernel_rfl
theorem tk149 : tk Tryd.prog 149 = some ⟨2, 2, [.int .u8 0, .int .u8 0], true, 6, true⟩ := by kernel_rfl
theorem tf149x0 : tField Tryd.prog 149 0 = some (0, 5) := by kernel_rfl
theorem tf149x1 : tField Tryd.prog 149 1 = some (1, 5) := by kernel_rfl
theorem tk150 : tk Tryd.prog 150 = some ⟨32, 32, List.replicate 32 (.int .u8 0), true, 9, false⟩ := by kernel_rfl
theorem ta150 : tArr Tryd.prog 150 = some (16, 149) := by kernel_rfl
theorem tk153 : tk Tryd.prog 153 = some ⟨20, 160, List.replicate 20 (.int .u64 0), true, 9, false⟩ := by kernel_rfl
theorem ta153 : tArr Tryd.prog 153 = some (20, 82) := by kernel_rfl
theorem tk154 : tk Tryd.prog 154 = some ⟨65, 65, List.replicate 65 (.int .u8 0), true, 9, false⟩ := by kernel_rfl
theorem ta154 : tArr Tryd.prog 154 = some (65, 5) := by kernel_rfl
theorem tk155 : tk Tryd.prog 155 = some ⟨32, 32, List.replicate 32 (.int .u8 0), true, 9, false⟩ := by kernel_rfl
theorem ta155 : tArr Tryd.prog 155 = some (32, 5) := by kernel_rfl
theorem tk156 : tk Tryd.prog 156 = some ⟨64, 64, List.replicate 64 (.int .u8 0), true, 9, false⟩ := by kernel_rfl
theorem ta156 : tArr Tryd.prog 156 = some (64, 5) := by kernel_rfl
theorem TY : tk Tryd.prog 2 = some ⟨1, 8, [.int .i64 0], false, 2, false⟩ ∧
  tInt Tryd.prog 2 = some .i64 ∧
  tk Tryd.prog 3 = some ⟨1, 8, [.int .i64 0], false, 2, false⟩ ∧
  tInt Tryd.prog 3 = some .i64 ∧
  tk Tryd.prog 4 = some ⟨1, 1, [.bool false], false, 1, false⟩ ∧
  tk Tryd.prog 5 = some ⟨1, 1, [.int .u8 0], false, 2, false⟩ ∧
  tInt Tryd.prog 5 = some .u8 ∧
  tk Tryd.prog 9 = some ⟨1, 16, [.string ⟨#[]⟩], false, 3, false⟩ ∧
  tElem Tryd.prog 9 = none ∧
  tk Tryd.prog 21 = some ⟨1, 4, [.int .i32 0], false, 2, false⟩ ∧
  tInt Tryd.prog 21 = some .i32 ∧
  tk Tryd.prog 23 = some ⟨2, 32, [.string ⟨#[]⟩, .string ⟨#[]⟩], true, 6, true⟩ ∧
  tField Tryd.prog 23 0 = some (0, 9) ∧
  tField Tryd.prog 23 1 = some (1, 9) ∧
  tk Tryd.prog 26 = some ⟨2, 32, [.string ⟨#[]⟩, .string ⟨#[]⟩], true, 6, true⟩ ∧
  tField Tryd.prog 26 0 = some (0, 9) ∧
  tField Tryd.prog 26 1 = some (1, 9) ∧
  tk Tryd.prog 41 = some ⟨2, 24, [.string ⟨#[]⟩, .int .i64 0], true, 6, true⟩ ∧
  tField Tryd.prog 41 0 = some (0, 9) ∧
  tField Tryd.prog 41 1 = some (1, 3) ∧
  tk Tryd.prog 44 = some ⟨2, 24, [.string ⟨#[]⟩, .int .i64 0], true, 6, true⟩ ∧
  tField Tryd.prog 44 0 = some (0, 9) ∧
  tField Tryd.prog 44 1 = some (1, 3) ∧
  tk Tryd.prog 47 = some ⟨1, 24, [.slice none 0 0], false, 5, false⟩ ∧
  tElem Tryd.prog 47 = some 44 ∧
  tk Tryd.prog 52 = some ⟨1, 24, [.slice none 0 0], false, 5, false⟩ ∧
  tElem Tryd.prog 52 = some 9 ∧
  tk Tryd.prog 57 = some ⟨1, 24, [.slice none 0 0], false, 5, false⟩ ∧
  tElem Tryd.prog 57 = some 5 ∧
  tk Tryd.prog 71 = some ⟨1, 8, [.nilFunc], false, 8, false⟩ ∧
  tk Tryd.prog 81 = some ⟨1, 8, [.pointer none], false, 4, false⟩ ∧
  tk Tryd.prog 82 = some ⟨1, 8, [.int .u64 0], false, 2, false⟩ ∧
  tInt Tryd.prog 82 = some .u64 ∧
  tk Tryd.prog 84 = some ⟨3, 40, [.slice none 0 0, .int .i64 0, .int .u64 0], true, 6, true⟩ ∧
  tField Tryd.prog 84 0 = some (0, 57) ∧
  tField Tryd.prog 84 1 = some (1, 3) ∧
  tField Tryd.prog 84 2 = some (2, 82) ∧
  tk Tryd.prog 90 = some ⟨1, 24, [.slice none 0 0], false, 5, false⟩ ∧
  tElem Tryd.prog 90 = some 3 ∧
  tk Tryd.prog 101 = some ⟨1, 8, [.int .u64 0], false, 2, false⟩ ∧
  tInt Tryd.prog 101 = some .u64 ∧
  tk Tryd.prog 109 = some ⟨256, 256, List.replicate 256 (.bool false), true, 9, false⟩ ∧
  tArr Tryd.prog 109 = some (256, 4) ∧
  tk Tryd.prog 113 = some ⟨1, 8, [.pointer none], false, 4, false⟩ ∧
  tk Tryd.prog 115 = some ⟨1, 8, [.int .i64 0], false, 2, false⟩ ∧
  tInt Tryd.prog 115 = some .i64 ∧
  tk Tryd.prog 122 = some ⟨1, 4, [.int .u32 0], false, 2, false⟩ ∧
  tInt Tryd.prog 122 = some .u32 ∧
  tk Tryd.prog 130 = some ⟨1, 8, [.int .u64 0], false, 2, false⟩ ∧
  tInt Tryd.prog 130 = some .u64 ∧
  tk Tryd.prog 134 = some ⟨1, 8, [.pointer none], false, 4, false⟩ ∧
  tk Tryd.prog 140 = some ⟨24, 24, List.replicate 24 (.int .u8 0), true, 9, false⟩ ∧
  tArr Tryd.prog 140 = some (24, 5) ∧
  tk Tryd.prog 147 = some ⟨256, 256, List.replicate 256 (.int .u8 0), true, 9, false⟩ ∧
  tArr Tryd.prog 147 = some (256, 5) ∧
  tk Tryd.prog 149 = some ⟨2, 2, [.int .u8 0, .int .u8 0], true, 6, true⟩ ∧
  tField Tryd.prog 149 0 = some (0, 5) ∧
  tField Tryd.prog 149 1 = some (1, 5) ∧
  tk Tryd.prog 150 = some ⟨32, 32, List.replicate 32 (.int .u8 0), true, 9, false⟩ ∧
  tArr Tryd.prog 150 = some (16, 149) ∧
  tk Tryd.prog 153 = some ⟨20, 160, List.replicate 20 (.int .u64 0), true, 9, false⟩ ∧
  tArr Tryd.prog 153 = some (20, 82) ∧
  tk Tryd.prog 154 = some ⟨65, 65, List.replicate 65 (.int .u8 0), true, 9, false⟩ ∧
  tArr Tryd.prog 154 = some (65, 5) ∧
  tk Tryd.prog 155 = some ⟨32, 32, List.replicate 32 (.int .u8 0), true, 9, false⟩ ∧
  tArr Tryd.prog 155 = some (32, 5) ∧
  tk Tryd.prog 156 = some ⟨64, 64, List.replicate 64 (.int .u8 0), true, 9, false⟩ ∧
  tArr Tryd.prog 156 = some (64, 5) := And.intro tk2 (And.intro ti2 (And.intro tk3 (And.intro ti3 (And.intro tk4 (And.intro tk5 (And.intro ti5 (And.intro tk9 (And.intro te9 (And.intro tk21 (And.intro ti21 (And.intro tk23 (And.intro tf23x0 (And.intro tf23x1 (And.intro tk26 (And.intro tf26x0 (And.intro tf26x1 (And.intro tk41 (And.intro tf41x0 (And.intro tf41x1 (And.intro tk44 (And.intro tf44x0 (And.intro tf44x1 (And.intro tk47 (And.intro te47 (And.intro tk52 (And.intro te52 (And.intro tk57 (And.intro te57 (And.intro tk71 (And.intro tk81 (And.intro tk82 (And.intro ti82 (And.intro tk84 (And.intro tf84x0 (And.intro tf84x1 (And.intro tf84x2 (And.intro tk90 (And.intro te90 (And.intro tk101 (And.intro ti101 (And.intro tk109 (And.intro ta109 (And.intro tk113 (And.intro tk115 (And.intro ti115 (And.intro tk122 (And.intro ti122 (And.intro tk130 (And.intro ti130 (And.intro tk134 (And.intro tk140 (And.intro ta140 (And.intro tk147 (And.intro ta147 (And.intro tk149 (And.intro tf149x0 (And.intro tf149x1 (And.intro tk150 (And.intro ta150 (And.intro tk153 (And.intro ta153 (And.intro tk154 (And.intro ta154 (And.intro tk155 (And.intro ta155 (And.intro tk156 (ta156)))))))))))))))))))))))))))))))))))))))))))))))))))))))))))))))))))
theorem HB : hasBody Tryd.prog 3 = true ∧
  hasBody Tryd.prog 4 = true ∧
  hasBody Tryd.prog 5 = true ∧
  hasBody Tryd.prog 6 = true ∧
  hasBody Tryd.prog 7 = true ∧
  hasBody Tryd.prog 8 = true ∧
  hasBody Tryd.prog 9 = true ∧
  hasBody Tryd.prog 10 = true ∧
  hasBody Tryd.prog 11 = true ∧
  hasBody Tryd.prog 12 = true ∧
  hasBody Tryd.prog 13 = true ∧
  hasBody Tryd.prog 14 = true ∧
  hasBody Tryd.prog 15 = true ∧
  hasBody Tryd.prog 16 = true ∧
  hasBody Tryd.prog 17 = true ∧
  hasBody Tryd.prog 18 = true ∧
  hasBody Tryd.prog 19 = true ∧
  hasBody Tryd.prog 20 = true ∧
  hasBody Tryd.prog 21 = true ∧
  hasBody Tryd.prog 22 = true ∧
  hasBody Tryd.prog 23 = true ∧
  hasBody Tryd.prog 24 = true ∧
  hasBody Tryd.prog 25 = true ∧
  hasBody Tryd.prog 26 = true ∧
  hasBody Tryd.prog 27 = true ∧
  hasBody Tryd.prog 28 = true ∧
  hasBody Tryd.prog 29 = true ∧
  hasBody Tryd.prog 30 = true ∧
  hasBody Tryd.prog 31 = true ∧
  hasBody Tryd.prog 32 = true ∧
  hasBody Tryd.prog 33 = true ∧
  hasBody Tryd.prog 34 = true ∧
  hasBody Tryd.prog 35 = true ∧
  hasBody Tryd.prog 36 = true ∧
  hasBody Tryd.prog 37 = true ∧
  hasBody Tryd.prog 38 = true ∧
  hasBody Tryd.prog 39 = true ∧
  hasBody Tryd.prog 40 = true ∧
  hasBody Tryd.prog 41 = true ∧
  hasBody Tryd.prog 42 = true ∧
  hasBody Tryd.prog 43 = true ∧
  hasBody Tryd.prog 44 = true ∧
  hasBody Tryd.prog 45 = true ∧
  hasBody Tryd.prog 46 = true ∧
  hasBody Tryd.prog 47 = true ∧
  hasBody Tryd.prog 48 = true ∧
  hasBody Tryd.prog 49 = true ∧
  hasBody Tryd.prog 50 = true ∧
  hasBody Tryd.prog 51 = true ∧
  hasBody Tryd.prog 52 = true ∧
  hasBody Tryd.prog 53 = true ∧
  hasBody Tryd.prog 54 = true ∧
  hasBody Tryd.prog 55 = true ∧
  hasBody Tryd.prog 56 = true ∧
  hasBody Tryd.prog 57 = true ∧
  hasBody Tryd.prog 58 = true ∧
  hasBody Tryd.prog 59 = true ∧
  hasBody Tryd.prog 60 = true ∧
  hasBody Tryd.prog 61 = true ∧
  hasBody Tryd.prog 62 = true ∧
  hasBody Tryd.prog 63 = true ∧
  hasBody Tryd.prog 64 = true ∧
  hasBody Tryd.prog 65 = true ∧
  hasBody Tryd.prog 66 = true ∧
  hasBody Tryd.prog 67 = true ∧
  hasBody Tryd.prog 68 = true ∧
  hasBody Tryd.prog 69 = true ∧
  hasBody Tryd.prog 70 = true ∧
  hasBody Tryd.prog 71 = true ∧
  hasBody Tryd.prog 72 = true ∧
  hasBody Tryd.prog 73 = true ∧
  hasBody Tryd.prog 74 = true ∧
  hasBody Tryd.prog 75 = true ∧
  hasBody Tryd.prog 76 = true ∧
  hasBody Tryd.prog 77 = true ∧
  hasBody Tryd.prog 78 = true ∧
  hasBody Tryd.prog 79 = true ∧
  hasBody Tryd.prog 80 = true ∧
  hasBody Tryd.prog 81 = true ∧
  hasBody Tryd.prog 82 = true ∧
  hasBody Tryd.prog 83 = true ∧
  hasBody Tryd.prog 84 = true ∧
  hasBody Tryd.prog 85 = true ∧
  hasBody Tryd.prog 86 = true ∧
  hasBody Tryd.prog 87 = true ∧
  hasBody Tryd.prog 88 = true ∧
  hasBody Tryd.prog 89 = true ∧
  hasBody Tryd.prog 90 = true ∧
  hasBody Tryd.prog 91 = true ∧
  hasBody Tryd.prog 92 = true ∧
  hasBody Tryd.prog 93 = true ∧
  hasBody Tryd.prog 94 = true ∧
  hasBody Tryd.prog 95 = true ∧
  hasBody Tryd.prog 96 = true ∧
  hasBody Tryd.prog 97 = true ∧
  hasBody Tryd.prog 98 = true ∧
  hasBody Tryd.prog 99 = true ∧
  hasBody Tryd.prog 100 = true ∧
  hasBody Tryd.prog 101 = true ∧
  hasBody Tryd.prog 102 = true ∧
  hasBody Tryd.prog 103 = true ∧
  hasBody Tryd.prog 104 = true ∧
  hasBody Tryd.prog 105 = true ∧
  hasBody Tryd.prog 106 = true ∧
  hasBody Tryd.prog 107 = true ∧
  hasBody Tryd.prog 108 = true ∧
  hasBody Tryd.prog 109 = true ∧
  hasBody Tryd.prog 110 = true ∧
  hasBody Tryd.prog 111 = true ∧
  hasBody Tryd.prog 112 = true ∧
  hasBody Tryd.prog 113 = true ∧
  hasBody Tryd.prog 114 = true ∧
  hasBody Tryd.prog 115 = true ∧
  hasBody Tryd.prog 116 = true ∧
  hasBody Tryd.prog 117 = true ∧
  hasBody Tryd.prog 119 = true ∧
  hasBody Tryd.prog 120 = true ∧
  hasBody Tryd.prog 122 = true ∧
  hasBody Tryd.prog 123 = true ∧
  hasBody Tryd.prog 124 = true ∧
  hasBody Tryd.prog 125 = true ∧
  hasBody Tryd.prog 126 = true ∧
  hasBody Tryd.prog 127 = true ∧
  hasBody Tryd.prog 128 = true ∧
  hasBody Tryd.prog 129 = true ∧
  hasBody Tryd.prog 130 = true ∧
  hasBody Tryd.prog 131 = true ∧
  hasBody Tryd.prog 132 = true ∧
  hasBody Tryd.prog 133 = true ∧
  hasBody Tryd.prog 134 = true ∧
  hasBody Tryd.prog 135 = true ∧
  hasBody Tryd.prog 137 = true ∧
  hasBody Tryd.prog 138 = true ∧
  hasBody Tryd.prog 139 = true ∧
  hasBody Tryd.prog 140 = true ∧
  hasBody Tryd.prog 141 = true ∧
  hasBody Tryd.prog 142 = true ∧
  hasBody Tryd.prog 143 = true ∧
  hasBody Tryd.prog 144 = true ∧
  hasBody Tryd.prog 145 = true ∧
  hasBody Tryd.prog 146 = true ∧
  hasBody Tryd.prog 147 = true ∧
  hasBody Tryd.prog 148 = true ∧
  hasBody Tryd.prog 149 = true ∧
  hasBody Tryd.prog 150 = true ∧
  hasBody Tryd.prog 151 = true ∧
  hasBody Tryd.prog 152 = true := by
  repeat' apply And.intro
  all_goals kernel_rfl
end Go.Proofs
