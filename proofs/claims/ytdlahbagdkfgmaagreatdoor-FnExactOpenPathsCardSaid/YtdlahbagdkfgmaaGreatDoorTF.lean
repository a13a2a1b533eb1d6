/- Contracts of functions, facts of types, or the plain law behind one statement (own work): TF. Conditions: those told in each theorem. -/
import Derived.Test.YtdlahbagdkfgmaaGreatDoorVB
import Derived.Test.YtdlahbagdkfgmaaGreatDoorProg
import Derived.KernelRfl
set_option linter.all false
namespace Go.Proofs
open Go Go.V
-- the instance of 'Laid' stands in TG (strconv's powers of ten) or TN (nothing laid)
theorem tk2 : tk Tryz.prog 2 = some ⟨1, 8, [.int .i64 0], false, 2, false⟩ := by kernel_rfl
theorem ti2 : tInt Tryz.prog 2 = some .i64 := by kernel_rfl
theorem tk3 : tk Tryz.prog 3 = some ⟨1, 8, [.int .i64 0], false, 2, false⟩ := by kernel_rfl
theorem ti3 : tInt Tryz.prog 3 = some .i64 := by kernel_rfl
theorem tk4 : tk Tryz.prog 4 = some ⟨1, 1, [.bool false], false, 1, false⟩ := by kernel_rfl
theorem tk5 : tk Tryz.prog 5 = some ⟨1, 1, [.int .u8 0], false, 2, false⟩ := by kernel_rfl
theorem ti5 : tInt Tryz.prog 5 = some .u8 := by kernel_rfl
theorem tk9 : tk Tryz.prog 9 = some ⟨1, 16, [.string ⟨#[]⟩], false, 3, false⟩ := by kernel_rfl
theorem te9 : tElem Tryz.prog 9 = none := by kernel_rfl
theorem tk21 : tk Tryz.prog 21 = some ⟨1, 4, [.int .i32 0], false, 2, false⟩ := by kernel_rfl
theorem ti21 : tInt Tryz.prog 21 = some .i32 := by kernel_rfl
theorem tk23 : tk Tryz.prog 23 = some ⟨2, 32, [.string ⟨#[]⟩, .string ⟨#[]⟩], true, 6, true⟩ := by kernel_rfl
theorem tf23x0 : tField Tryz.prog 23 0 = some (0, 9) := by kernel_rfl
theorem tf23x1 : tField Tryz.prog 23 1 = some (1, 9) := by kernel_rfl
theorem tk25 : tk Tryz.prog 25 = some ⟨1, 24, [.slice none 0 0], false, 5, false⟩ := by kernel_rfl
theorem te25 : tElem Tryz.prog 25 = some 9 := by kernel_rfl
theorem tk28 : tk Tryz.prog 28 = some ⟨2, 32, [.string ⟨#[]⟩, .string ⟨#[]⟩], true, 6, true⟩ := by kernel_rfl
theorem tf28x0 : tField Tryz.prog 28 0 = some (0, 9) := by kernel_rfl
theorem tf28x1 : tField Tryz.prog 28 1 = some (1, 9) := by kernel_rfl
theorem tk33 : tk Tryz.prog 33 = some ⟨1, 24, [.slice none 0 0], false, 5, false⟩ := by kernel_rfl
theorem te33 : tElem Tryz.prog 33 = some 5 := by kernel_rfl
theorem tk35 : tk Tryz.prog 35 = some ⟨2, 24, [.string ⟨#[]⟩, .int .i64 0], true, 6, true⟩ := by kernel_rfl
theorem tf35x0 : tField Tryz.prog 35 0 = some (0, 9) := by kernel_rfl
theorem tf35x1 : tField Tryz.prog 35 1 = some (1, 3) := by kernel_rfl
theorem tk40 : tk Tryz.prog 40 = some ⟨1, 24, [.slice none 0 0], false, 5, false⟩ := by kernel_rfl
theorem te40 : tElem Tryz.prog 40 = some 35 := by kernel_rfl
theorem tk50 : tk Tryz.prog 50 = some ⟨1, 8, [.nilFunc], false, 8, false⟩ := by kernel_rfl
theorem tk60 : tk Tryz.prog 60 = some ⟨1, 8, [.pointer none], false, 4, false⟩ := by kernel_rfl
theorem tk61 : tk Tryz.prog 61 = some ⟨1, 8, [.int .u64 0], false, 2, false⟩ := by kernel_rfl
theorem ti61 : tInt Tryz.prog 61 = some .u64 := by kernel_rfl
theorem tk63 : tk Tryz.prog 63 = some ⟨3, 40, [.slice none 0 0, .int .i64 0, .int .u64 0], true, 6, true⟩ := by kernel_rfl
theorem tf63x0 : tField Tryz.prog 63 0 = some (0, 33) := by kernel_rfl
theorem tf63x1 : tField Tryz.prog 63 1 = some (1, 3) := by kernel_rfl
theorem tf63x2 : tField Tryz.prog 63 2 = some (2, 61) := by kernel_rfl
theorem tk78 : tk Tryz.prog 78 = some ⟨1, 8, [.int .u64 0], false, 2, false⟩ := by kernel_rfl
theorem ti78 : tInt Tryz.prog 78 = some .u64 := by kernel_rfl
theorem tk82 : tk Tryz.prog 82 = some ⟨1, 24, [.slice none 0 0], false, 5, false⟩ := by kernel_rfl
theorem te82 : tElem Tryz.prog 82 = some 3 := by kernel_rfl
theorem tk92 : tk Tryz.prog 92 = some ⟨1, 8, [.int .i64 0], false, 2, false⟩ := by kernel_rfl
theorem ti92 : tInt Tryz.prog 92 = some .i64 := by kernel_rfl
theorem tk99 : tk Tryz.prog 99 = some ⟨1, 4, [.int .u32 0], false, 2, false⟩ := by kernel_rfl
theorem ti99 : tInt Tryz.prog 99 = some .u32 := by kernel_rfl
theorem tk104 : tk Tryz.prog 104 = some ⟨256, 256, List.replicate 256 (.bool false), true, 9, false⟩ := by kernel_rfl
theorem ta104 : tArr Tryz.prog 104 = some (256, 4) := by kernel_rfl
theorem tk108 : tk Tryz.prog 108 = some ⟨1, 8, [.pointer none], false, 4, false⟩ := by kernel_rfl
theorem tk110 : tk Tryz.prog 110 = some ⟨1, 8, [.int .u64 0], false, 2, false⟩ := by kernel_rfl
theorem ti110 : tInt Tryz.prog 110 = some .u64 := by kernel_rfl
theorem tk114 : tk Tryz.prog 114 = some ⟨1, 8, [.pointer none], false, 4, false⟩ := by kernel_rfl
theorem tk125 : tk Tryz.prog 125 = some ⟨24, 24, List.replicate 24 (.int .u8 0), true, 9, false⟩ := by kernel_rfl
theorem ta125 : tArr Tryz.prog 125 = some (24, 5) := by kernel_rfl
theorem tk134 : tk Tryz.prog 134 = some ⟨20, 160, List.replicate 20 (.int .u64 0), true, 9, false⟩ := by kernel_rfl
theorem ta134 : tArr Tryz.prog 134 = some (20, 61) := by kernel_rfl
theorem tk135 : tk Tryz.prog 135 = some ⟨65, 65, List.replicate 65 (.int .u8 0), true, 9, false⟩ := by kernel_rfl
theorem ta135 : tArr Tryz.prog 135 = some (65, 5) := by kernel_rfl
theorem tk136 : tk Tryz.prog 136 = some ⟨256, 256, List.replicate 256 (.int .u8 0), true, 9, false⟩ := by kernel_rfl
theorem ta136 : tArr Tryz.prog 136 = some (256, 5) := by kernel_rfl
theorem tk138 : tk Tryz.prog 138 = some ⟨2, 2, [.int .u8 0, .int .u8 0], true, 6, true⟩ := by kernel_rfl
theorem tf138x0 : tField Tryz.prog 138 0 = some (0, 5) := by kernel_rfl
theorem tf138x1 : tField Tryz.prog 138 1 = some (1, 5) := by kernel_rfl
theorem tk139 : tk Tryz.prog 139 = some ⟨32, 32, List.replicate 32 (.int .u8 0), true, 9, false⟩ := by kernel_rfl
theorem ta139 : tArr Tryz.prog 139 = some (16, 138) := by kernel_rfl
theorem tk141 : tk Tryz.prog 141 = some ⟨32, 32, List.replicate 32 (.int .u8 0), true, 9, false⟩ := by kernel_rfl
theorem ta141 : tArr Tryz.prog 141 = some (32, 5) := by kernel_rfl
theorem tk142 : tk Tryz.prog 142 = some ⟨64, 64, List.replicate 64 (.int .u8 0), true, 9, false⟩ := by kernel_rfl
theorem ta142 : tArr Tryz.prog 142 = some (64, 5) := by kernel_rfl
theorem TY : tk Tryz.prog 2 = some ⟨1, 8, [.int .i64 0], false, 2, false⟩ ∧
  tInt Tryz.prog 2 = some .i64 ∧
  tk Tryz.prog 3 = some ⟨1, 8, [.int .i64 0], false, 2, false⟩ ∧
  tInt Tryz.prog 3 = some .i64 ∧
  tk Tryz.prog 4 = some ⟨1, 1, [.bool false], false, 1, false⟩ ∧
  tk Tryz.prog 5 = some ⟨1, 1, [.int .u8 0], false, 2, false⟩ ∧
  tInt Tryz.prog 5 = some .u8 ∧
  tk Tryz.prog 9 = some ⟨1, 16, [.string ⟨#[]⟩], false, 3, false⟩ ∧
  tElem Tryz.prog 9 = none ∧
  tk Tryz.prog 21 = some ⟨1, 4, [.int .i32 0], false, 2, false⟩ ∧
  tInt Tryz.prog 21 = some .i32 ∧
  tk Tryz.prog 23 = some ⟨2, 32, [.string ⟨#[]⟩, .string ⟨#[]⟩], true, 6, true⟩ ∧
  tField Tryz.prog 23 0 = some (0, 9) ∧
  tField Tryz.prog 23 1 = some (1, 9) ∧
  tk Tryz.prog 25 = some ⟨1, 24, [.slice none 0 0], false, 5, false⟩ ∧
  tElem Tryz.prog 25 = some 9 ∧
  tk Tryz.prog 28 = some ⟨2, 32, [.string ⟨#[]⟩, .string ⟨#[]⟩], true, 6, true⟩ ∧
  tField Tryz.prog 28 0 = some (0, 9) ∧
  tField Tryz.prog 28 1 = some (1, 9) ∧
  tk Tryz.prog 33 = some ⟨1, 24, [.slice none 0 0], false, 5, false⟩ ∧
  tElem Tryz.prog 33 = some 5 ∧
  tk Tryz.prog 35 = some ⟨2, 24, [.string ⟨#[]⟩, .int .i64 0], true, 6, true⟩ ∧
  tField Tryz.prog 35 0 = some (0, 9) ∧
  tField Tryz.prog 35 1 = some (1, 3) ∧
  tk Tryz.prog 40 = some ⟨1, 24, [.slice none 0 0], false, 5, false⟩ ∧
  tElem Tryz.prog 40 = some 35 ∧
  tk Tryz.prog 50 = some ⟨1, 8, [.nilFunc], false, 8, false⟩ ∧
  tk Tryz.prog 60 = some ⟨1, 8, [.pointer none], false, 4, false⟩ ∧
  tk Tryz.prog 61 = some ⟨1, 8, [.int .u64 0], false, 2, false⟩ ∧
  tInt Tryz.prog 61 = some .u64 ∧
  tk Tryz.prog 63 = some ⟨3, 40, [.slice none 0 0, .int .i64 0, .int .u64 0], true, 6, true⟩ ∧
  tField Tryz.prog 63 0 = some (0, 33) ∧
  tField Tryz.prog 63 1 = some (1, 3) ∧
  tField Tryz.prog 63 2 = some (2, 61) ∧
  tk Tryz.prog 78 = some ⟨1, 8, [.int .u64 0], false, 2, false⟩ ∧
  tInt Tryz.prog 78 = some .u64 ∧
  tk Tryz.prog 82 = some ⟨1, 24, [.slice none 0 0], false, 5, false⟩ ∧
  tElem Tryz.prog 82 = some 3 ∧
  tk Tryz.prog 92 = some ⟨1, 8, [.int .i64 0], false, 2, false⟩ ∧
  tInt Tryz.prog 92 = some .i64 ∧
  tk Tryz.prog 99 = some ⟨1, 4, [.int .u32 0], false, 2, false⟩ ∧
  tInt Tryz.prog 99 = some .u32 ∧
  tk Tryz.prog 104 = some ⟨256, 256, List.replicate 256 (.bool false), true, 9, false⟩ ∧
  tArr Tryz.prog 104 = some (256, 4) ∧
  tk Tryz.prog 108 = some ⟨1, 8, [.pointer none], false, 4, false⟩ ∧
  tk Tryz.prog 110 = some ⟨1, 8, [.int .u64 0], false, 2, false⟩ ∧
  tInt Tryz.prog 110 = some .u64 ∧
  tk Tryz.prog 114 = some ⟨1, 8, [.pointer none], false, 4, false⟩ ∧
  tk Tryz.prog 125 = some ⟨24, 24, List.replicate 24 (.int .u8 0), true, 9, false⟩ ∧
  tArr Tryz.prog 125 = some (24, 5) ∧
  tk Tryz.prog 134 = some ⟨20, 160, List.replicate 20 (.int .u64 0), true, 9, false⟩ ∧
  tArr Tryz.prog 134 = some (20, 61) ∧
  tk Tryz.prog 135 = some ⟨65, 65, List.replicate 65 (.int .u8 0), true, 9, false⟩ ∧
  tArr Tryz.prog 135 = some (65, 5) ∧
  tk Tryz.prog 136 = some ⟨256, 256, List.replicate 256 (.int .u8 0), true, 9, false⟩ ∧
  tArr Tryz.prog 136 = some (256, 5) ∧
  tk Tryz.prog 138 = some ⟨2, 2, [.int .u8 0, .int .u8 0], true, 6, true⟩ ∧
  tField Tryz.prog 138 0 = some (0, 5) ∧
  tField Tryz.prog 138 1 = some (1, 5) ∧
  tk Tryz.prog 139 = some ⟨32, 32, List.replicate 32 (.int .u8 0), true, 9, false⟩ ∧
  tArr Tryz.prog 139 = some (16, 138) ∧
  tk Tryz.prog 141 = some ⟨32, 32, List.replicate 32 (.int .u8 0), true, 9, false⟩ ∧
  tArr Tryz.prog 141 = some (32, 5) ∧
  tk Tryz.prog 142 = some ⟨64, 64, List.replicate 64 (.int .u8 0), true, 9, false⟩ ∧
  tArr Tryz.prog 142 = some (64, 5) := And.intro tk2 (And.intro ti2 (And.intro tk3 (And.intro ti3 (And.intro tk4 (And.intro tk5 (And.intro ti5 (And.intro tk9 (And.intro te9 (And.intro tk21 (And.intro ti21 (And.intro tk23 (And.intro tf23x0 (And.intro tf23x1 (And.intro tk25 (And.intro te25 (And.intro tk28 (And.intro tf28x0 (And.intro tf28x1 (And.intro tk33 (And.intro te33 (And.intro tk35 (And.intro tf35x0 (And.intro tf35x1 (And.intro tk40 (And.intro te40 (And.intro tk50 (And.intro tk60 (And.intro tk61 (And.intro ti61 (And.intro tk63 (And.intro tf63x0 (And.intro tf63x1 (And.intro tf63x2 (And.intro tk78 (And.intro ti78 (And.intro tk82 (And.intro te82 (And.intro tk92 (And.intro ti92 (And.intro tk99 (And.intro ti99 (And.intro tk104 (And.intro ta104 (And.intro tk108 (And.intro tk110 (And.intro ti110 (And.intro tk114 (And.intro tk125 (And.intro ta125 (And.intro tk134 (And.intro ta134 (And.intro tk135 (And.intro ta135 (And.intro tk136 (And.intro ta136 (And.intro tk138 (And.intro tf138x0 (And.intro tf138x1 (And.intro tk139 (And.intro ta139 (And.intro tk141 (And.intro ta141 (And.intro tk142 (ta142))))))))))))))))))))))))))))))))))))))))))))))))))))))))))))))))
theorem HB : hasBody Tryz.prog 3 = true ∧
  hasBody Tryz.prog 4 = true ∧
  hasBody Tryz.prog 5 = true ∧
  hasBody Tryz.prog 6 = true ∧
  hasBody Tryz.prog 7 = true ∧
  hasBody Tryz.prog 8 = true ∧
  hasBody Tryz.prog 9 = true ∧
  hasBody Tryz.prog 10 = true ∧
  hasBody Tryz.prog 11 = true ∧
  hasBody Tryz.prog 12 = true ∧
  hasBody Tryz.prog 13 = true ∧
  hasBody Tryz.prog 14 = true ∧
  hasBody Tryz.prog 15 = true ∧
  hasBody Tryz.prog 16 = true ∧
  hasBody Tryz.prog 17 = true ∧
  hasBody Tryz.prog 18 = true ∧
  hasBody Tryz.prog 19 = true ∧
  hasBody Tryz.prog 20 = true ∧
  hasBody Tryz.prog 21 = true ∧
  hasBody Tryz.prog 22 = true ∧
  hasBody Tryz.prog 23 = true ∧
  hasBody Tryz.prog 24 = true ∧
  hasBody Tryz.prog 25 = true ∧
  hasBody Tryz.prog 26 = true ∧
  hasBody Tryz.prog 27 = true ∧
  hasBody Tryz.prog 28 = true ∧
  hasBody Tryz.prog 29 = true ∧
  hasBody Tryz.prog 30 = true ∧
  hasBody Tryz.prog 31 = true ∧
  hasBody Tryz.prog 32 = true ∧
  hasBody Tryz.prog 33 = true ∧
  hasBody Tryz.prog 34 = true ∧
  hasBody Tryz.prog 35 = true ∧
  hasBody Tryz.prog 36 = true ∧
  hasBody Tryz.prog 37 = true ∧
  hasBody Tryz.prog 38 = true ∧
  hasBody Tryz.prog 39 = true ∧
  hasBody Tryz.prog 40 = true ∧
  hasBody Tryz.prog 41 = true ∧
  hasBody Tryz.prog 42 = true ∧
  hasBody Tryz.prog 43 = true ∧
  hasBody Tryz.prog 44 = true ∧
  hasBody Tryz.prog 45 = true ∧
  hasBody Tryz.prog 46 = true ∧
  hasBody Tryz.prog 47 = true ∧
  hasBody Tryz.prog 48 = true ∧
  hasBody Tryz.prog 49 = true ∧
  hasBody Tryz.prog 50 = true ∧
  hasBody Tryz.prog 51 = true ∧
  hasBody Tryz.prog 52 = true ∧
  hasBody Tryz.prog 53 = true ∧
  hasBody Tryz.prog 54 = true ∧
  hasBody Tryz.prog 55 = true ∧
  hasBody Tryz.prog 56 = true ∧
  hasBody Tryz.prog 57 = true ∧
  hasBody Tryz.prog 58 = true ∧
  hasBody Tryz.prog 59 = true ∧
  hasBody Tryz.prog 60 = true ∧
  hasBody Tryz.prog 61 = true ∧
  hasBody Tryz.prog 62 = true ∧
  hasBody Tryz.prog 63 = true ∧
  hasBody Tryz.prog 64 = true ∧
  hasBody Tryz.prog 65 = true ∧
  hasBody Tryz.prog 66 = true ∧
  hasBody Tryz.prog 67 = true ∧
  hasBody Tryz.prog 68 = true ∧
  hasBody Tryz.prog 69 = true ∧
  hasBody Tryz.prog 70 = true ∧
  hasBody Tryz.prog 71 = true ∧
  hasBody Tryz.prog 72 = true ∧
  hasBody Tryz.prog 73 = true ∧
  hasBody Tryz.prog 74 = true ∧
  hasBody Tryz.prog 75 = true ∧
  hasBody Tryz.prog 76 = true ∧
  hasBody Tryz.prog 77 = true ∧
  hasBody Tryz.prog 78 = true ∧
  hasBody Tryz.prog 79 = true ∧
  hasBody Tryz.prog 80 = true ∧
  hasBody Tryz.prog 81 = true ∧
  hasBody Tryz.prog 82 = true ∧
  hasBody Tryz.prog 83 = true ∧
  hasBody Tryz.prog 84 = true ∧
  hasBody Tryz.prog 85 = true ∧
  hasBody Tryz.prog 86 = true ∧
  hasBody Tryz.prog 87 = true ∧
  hasBody Tryz.prog 88 = true ∧
  hasBody Tryz.prog 89 = true ∧
  hasBody Tryz.prog 90 = true ∧
  hasBody Tryz.prog 91 = true ∧
  hasBody Tryz.prog 92 = true ∧
  hasBody Tryz.prog 93 = true ∧
  hasBody Tryz.prog 94 = true ∧
  hasBody Tryz.prog 95 = true ∧
  hasBody Tryz.prog 96 = true ∧
  hasBody Tryz.prog 97 = true ∧
  hasBody Tryz.prog 98 = true ∧
  hasBody Tryz.prog 99 = true ∧
  hasBody Tryz.prog 100 = true ∧
  hasBody Tryz.prog 101 = true ∧
  hasBody Tryz.prog 102 = true ∧
  hasBody Tryz.prog 103 = true ∧
  hasBody Tryz.prog 104 = true ∧
  hasBody Tryz.prog 105 = true ∧
  hasBody Tryz.prog 106 = true ∧
  hasBody Tryz.prog 107 = true ∧
  hasBody Tryz.prog 108 = true ∧
  hasBody Tryz.prog 109 = true ∧
  hasBody Tryz.prog 111 = true ∧
  hasBody Tryz.prog 112 = true ∧
  hasBody Tryz.prog 114 = true ∧
  hasBody Tryz.prog 115 = true ∧
  hasBody Tryz.prog 116 = true ∧
  hasBody Tryz.prog 117 = true ∧
  hasBody Tryz.prog 118 = true ∧
  hasBody Tryz.prog 119 = true ∧
  hasBody Tryz.prog 120 = true ∧
  hasBody Tryz.prog 121 = true ∧
  hasBody Tryz.prog 122 = true ∧
  hasBody Tryz.prog 123 = true ∧
  hasBody Tryz.prog 124 = true ∧
  hasBody Tryz.prog 126 = true ∧
  hasBody Tryz.prog 127 = true ∧
  hasBody Tryz.prog 128 = true ∧
  hasBody Tryz.prog 129 = true ∧
  hasBody Tryz.prog 130 = true ∧
  hasBody Tryz.prog 131 = true ∧
  hasBody Tryz.prog 132 = true ∧
  hasBody Tryz.prog 133 = true := by
  repeat' apply And.intro
  all_goals kernel_rfl
end Go.Proofs
