/- Contracts of functions, facts of types, or the plain law behind one statement (own work): TF. Conditions: those told in each theorem. -/
import Derived.Test.YtkapgaajomaheaaGreatDoorVB
import Derived.Test.YtkapgaajomaheaaGreatDoorProg
import Derived.KernelRfl
set_option linter.all false
namespace Go.Proofs
open Go Go.V
-- the instance of 'Laid' stands in TG (strconv's powers of ten) or TN (nothing laid)
theorem tk2 : tk Tryz.prog 2 = some ⟨1, 8, [.int .i64 0], false, 2, false⟩ := by kernel_rfl
theorem ti2 : tInt Tryz.prog 2 = some .i64 := by kernel_rfl
theorem tk3 : tk Tryz.prog 3 = some ⟨1, 8, [.int .i64 0], false, 2, false⟩ := by kernel_rfl
theorem ti3 : tInt Tryz.prog 3 = some .i64 := by kernel_rfl
theorem tk4 : tk Tryz.prog 4 = some ⟨1, 1, [.bool false], false, 1, false⟩ := by kernel_rfl
theorem tk5 : tk Tryz.prog 5 = some ⟨1, 1, [.int .u8 0], false, 2, false⟩ := by kernel_rfl
theorem ti5 : tInt Tryz.prog 5 = some .u8 := by kernel_rfl
theorem tk9 : tk Tryz.prog 9 = some ⟨1, 16, [.string ⟨#[]⟩], false, 3, false⟩ := by kernel_rfl
theorem te9 : tElem Tryz.prog 9 = none := by kernel_rfl
theorem tk21 : tk Tryz.prog 21 = some ⟨1, 4, [.int .i32 0], false, 2, false⟩ := by kernel_rfl
theorem ti21 : tInt Tryz.prog 21 = some .i32 := by kernel_rfl
theorem tk22 : tk Tryz.prog 22 = some ⟨1, 24, [.slice none 0 0], false, 5, false⟩ := by kernel_rfl
theorem te22 : tElem Tryz.prog 22 = some 5 := by kernel_rfl
theorem tk24 : tk Tryz.prog 24 = some ⟨2, 32, [.string ⟨#[]⟩, .string ⟨#[]⟩], true, 6, true⟩ := by kernel_rfl
theorem tf24x0 : tField Tryz.prog 24 0 = some (0, 9) := by kernel_rfl
theorem tf24x1 : tField Tryz.prog 24 1 = some (1, 9) := by kernel_rfl
theorem tk26 : tk Tryz.prog 26 = some ⟨2, 24, [.string ⟨#[]⟩, .int .i64 0], true, 6, true⟩ := by kernel_rfl
theorem tf26x0 : tField Tryz.prog 26 0 = some (0, 9) := by kernel_rfl
theorem tf26x1 : tField Tryz.prog 26 1 = some (1, 3) := by kernel_rfl
theorem tk31 : tk Tryz.prog 31 = some ⟨1, 24, [.slice none 0 0], false, 5, false⟩ := by kernel_rfl
theorem te31 : tElem Tryz.prog 31 = some 26 := by kernel_rfl
theorem tk35 : tk Tryz.prog 35 = some ⟨1, 24, [.slice none 0 0], false, 5, false⟩ := by kernel_rfl
theorem te35 : tElem Tryz.prog 35 = some 9 := by kernel_rfl
theorem tk45 : tk Tryz.prog 45 = some ⟨1, 8, [.nilFunc], false, 8, false⟩ := by kernel_rfl
theorem tk47 : tk Tryz.prog 47 = some ⟨1, 8, [.pointer none], false, 4, false⟩ := by kernel_rfl
theorem tk48 : tk Tryz.prog 48 = some ⟨1, 8, [.int .u64 0], false, 2, false⟩ := by kernel_rfl
theorem ti48 : tInt Tryz.prog 48 = some .u64 := by kernel_rfl
theorem tk50 : tk Tryz.prog 50 = some ⟨3, 40, [.slice none 0 0, .int .i64 0, .int .u64 0], true, 6, true⟩ := by kernel_rfl
theorem tf50x0 : tField Tryz.prog 50 0 = some (0, 22) := by kernel_rfl
theorem tf50x1 : tField Tryz.prog 50 1 = some (1, 3) := by kernel_rfl
theorem tf50x2 : tField Tryz.prog 50 2 = some (2, 48) := by kernel_rfl
theorem tk71 : tk Tryz.prog 71 = some ⟨1, 24, [.slice none 0 0], false, 5, false⟩ := by kernel_rfl
theorem te71 : tElem Tryz.prog 71 = some 3 := by kernel_rfl
theorem tk79 : tk Tryz.prog 79 = some ⟨1, 8, [.int .u64 0], false, 2, false⟩ := by kernel_rfl
theorem ti79 : tInt Tryz.prog 79 = some .u64 := by kernel_rfl
theorem tk87 : tk Tryz.prog 87 = some ⟨1, 8, [.int .i64 0], false, 2, false⟩ := by kernel_rfl
theorem ti87 : tInt Tryz.prog 87 = some .i64 := by kernel_rfl
theorem tk94 : tk Tryz.prog 94 = some ⟨1, 4, [.int .u32 0], false, 2, false⟩ := by kernel_rfl
theorem ti94 : tInt Tryz.prog 94 = some .u32 := by kernel_rfl
theorem tk99 : tk Tryz.prog 99 = some ⟨256, 256, List.replicate 256 (.bool false), true, 9, false⟩ := by kernel_rfl
theorem ta99 : tArr Tryz.prog 99 = some (256, 4) := by kernel_rfl
theorem tk103 : tk Tryz.prog 103 = some ⟨1, 8, [.pointer none], false, 4, false⟩ := by kernel_rfl
theorem tk106 : tk Tryz.prog 106 = some ⟨1, 8, [.int .u64 0], false, 2, false⟩ := by kernel_rfl
theorem ti106 : tInt Tryz.prog 106 = some .u64 := by kernel_rfl
theorem tk110 : tk Tryz.prog 110 = some ⟨1, 8, [.pointer none], false, 4, false⟩ := by kernel_rfl
theorem tk117 : tk Tryz.prog 117 = some ⟨24, 24, List.replicate 24 (.int .u8 0), true, 9, false⟩ := by kernel_rfl
theorem ta117 : tArr Tryz.prog 117 = some (24, 5) := by kernel_rfl
theorem tk129 : tk Tryz.prog 129 = some ⟨20, 160, List.replicate 20 (.int .u64 0), true, 9, false⟩ := by kernel_rfl
theorem ta129 : tArr Tryz.prog 129 = some (20, 48) := by kernel_rfl
theorem tk130 : tk Tryz.prog 130 = some ⟨65, 65, List.replicate 65 (.int .u8 0), true, 9, false⟩ := by kernel_rfl
theorem ta130 : tArr Tryz.prog 130 = some (65, 5) := by kernel_rfl
theorem tk131 : tk Tryz.prog 131 = some ⟨256, 256, List.replicate 256 (.int .u8 0), true, 9, false⟩ := by kernel_rfl
theorem ta131 : tArr Tryz.prog 131 = some (256, 5) := by kernel_rfl
theorem tk133 : tk Tryz.prog 133 = some ⟨2, 2, [.int .u8 0, .int .u8 0], true, 6, true⟩ := by kernel_rfl
theorem tf133x0 : tField Tryz.prog 133 0 = some (0, 5) := by kernel_rfl
theorem tf133x1 : tField Tryz.prog 133 1 = some (1, 5) := by kernel_rfl
theorem tk134 : tk Tryz.prog 134 = some ⟨32, 32, List.replicate 32 (.int .u8 0), true, 9, false⟩ := by kernel_rfl
theorem ta134 : tArr Tryz.prog 134 = some (16, 133) := by kernel_rfl
theorem tk136 : tk Tryz.prog 136 = some ⟨32, 32, List.replicate 32 (.int .u8 0), true, 9, false⟩ := by kernel_rfl
theorem ta136 : tArr Tryz.prog 136 = some (32, 5) := by kernel_rfl
theorem tk137 : tk Tryz.prog 137 = some ⟨64, 64, List.replicate 64 (.int .u8 0), true, 9, false⟩ := by kernel_rfl
theorem ta137 : tArr Tryz.prog 137 = some (64, 5) := by kernel_rfl
theorem TY : tk Tryz.prog 2 = some ⟨1, 8, [.int .i64 0], false, 2, false⟩ ∧
  tInt Tryz.prog 2 = some .i64 ∧
  tk Tryz.prog 3 = some ⟨1, 8, [.int .i64 0], false, 2, false⟩ ∧
  tInt Tryz.prog 3 = some .i64 ∧
  tk Tryz.prog 4 = some ⟨1, 1, [.bool false], false, 1, false⟩ ∧
  tk Tryz.prog 5 = some ⟨1, 1, [.int .u8 0], false, 2, false⟩ ∧
  tInt Tryz.prog 5 = some .u8 ∧
  tk Tryz.prog 9 = some ⟨1, 16, [.string ⟨#[]⟩], false, 3, false⟩ ∧
  tElem Tryz.prog 9 = none ∧
  tk Tryz.prog 21 = some ⟨1, 4, [.int .i32 0], false, 2, false⟩ ∧
  tInt Tryz.prog 21 = some .i32 ∧
  tk Tryz.prog 22 = some ⟨1, 24, [.slice none 0 0], false, 5, false⟩ ∧
  tElem Tryz.prog 22 = some 5 ∧
  tk Tryz.prog 24 = some ⟨2, 32, [.string ⟨#[]⟩, .string ⟨#[]⟩], true, 6, true⟩ ∧
  tField Tryz.prog 24 0 = some (0, 9) ∧
  tField Tryz.prog 24 1 = some (1, 9) ∧
  tk Tryz.prog 26 = some ⟨2, 24, [.string ⟨#[]⟩, .int .i64 0], true, 6, true⟩ ∧
  tField Tryz.prog 26 0 = some (0, 9) ∧
  tField Tryz.prog 26 1 = some (1, 3) ∧
  tk Tryz.prog 31 = some ⟨1, 24, [.slice none 0 0], false, 5, false⟩ ∧
  tElem Tryz.prog 31 = some 26 ∧
  tk Tryz.prog 35 = some ⟨1, 24, [.slice none 0 0], false, 5, false⟩ ∧
  tElem Tryz.prog 35 = some 9 ∧
  tk Tryz.prog 45 = some ⟨1, 8, [.nilFunc], false, 8, false⟩ ∧
  tk Tryz.prog 47 = some ⟨1, 8, [.pointer none], false, 4, false⟩ ∧
  tk Tryz.prog 48 = some ⟨1, 8, [.int .u64 0], false, 2, false⟩ ∧
  tInt Tryz.prog 48 = some .u64 ∧
  tk Tryz.prog 50 = some ⟨3, 40, [.slice none 0 0, .int .i64 0, .int .u64 0], true, 6, true⟩ ∧
  tField Tryz.prog 50 0 = some (0, 22) ∧
  tField Tryz.prog 50 1 = some (1, 3) ∧
  tField Tryz.prog 50 2 = some (2, 48) ∧
  tk Tryz.prog 71 = some ⟨1, 24, [.slice none 0 0], false, 5, false⟩ ∧
  tElem Tryz.prog 71 = some 3 ∧
  tk Tryz.prog 79 = some ⟨1, 8, [.int .u64 0], false, 2, false⟩ ∧
  tInt Tryz.prog 79 = some .u64 ∧
  tk Tryz.prog 87 = some ⟨1, 8, [.int .i64 0], false, 2, false⟩ ∧
  tInt Tryz.prog 87 = some .i64 ∧
  tk Tryz.prog 94 = some ⟨1, 4, [.int .u32 0], false, 2, false⟩ ∧
  tInt Tryz.prog 94 = some .u32 ∧
  tk Tryz.prog 99 = some ⟨256, 256, List.replicate 256 (.bool false), true, 9, false⟩ ∧
  tArr Tryz.prog 99 = some (256, 4) ∧
  tk Tryz.prog 103 = some ⟨1, 8, [.pointer none], false, 4, false⟩ ∧
  tk Tryz.prog 106 = some ⟨1, 8, [.int .u64 0], false, 2, false⟩ ∧
  tInt Tryz.prog 106 = some .u64 ∧
  tk Tryz.prog 110 = some ⟨1, 8, [.pointer none], false, 4, false⟩ ∧
  tk Tryz.prog 117 = some ⟨24, 24, List.replicate 24 (.int .u8 0), true, 9, false⟩ ∧
  tArr Tryz.prog 117 = some (24, 5) ∧
  tk Tryz.prog 129 = some ⟨20, 160, List.replicate 20 (.int .u64 0), true, 9, false⟩ ∧
  tArr Tryz.prog 129 = some (20, 48) ∧
  tk Tryz.prog 130 = some ⟨65, 65, List.replicate 65 (.int .u8 0), true, 9, false⟩ ∧
  tArr Tryz.prog 130 = some (65, 5) ∧
  tk Tryz.prog 131 = some ⟨256, 256, List.replicate 256 (.int .u8 0), true, 9, false⟩ ∧
  tArr Tryz.prog 131 = some (256, 5) ∧
  tk Tryz.prog 133 = some ⟨2, 2, [.int .u8 0, .int .u8 0], true, 6, true⟩ ∧
  tField Tryz.prog 133 0 = some (0, 5) ∧
  tField Tryz.prog 133 1 = some (1, 5) ∧
  tk Tryz.prog 134 = some ⟨32, 32, List.replicate 32 (.int .u8 0), true, 9, false⟩ ∧
  tArr Tryz.prog 134 = some (16, 133) ∧
  tk Tryz.prog 136 = some ⟨32, 32, List.replicate 32 (.int .u8 0), true, 9, false⟩ ∧
  tArr Tryz.prog 136 = some (32, 5) ∧
  tk Tryz.prog 137 = some ⟨64, 64, List.replicate 64 (.int .u8 0), true, 9, false⟩ ∧
  tArr Tryz.prog 137 = some (64, 5) := And.intro tk2 (And.intro ti2 (And.intro tk3 (And.intro ti3 (And.intro tk4 (And.intro tk5 (And.intro ti5 (And.intro tk9 (And.intro te9 (And.intro tk21 (And.intro ti21 (And.intro tk22 (And.intro te22 (And.intro tk24 (And.intro tf24x0 (And.intro tf24x1 (And.intro tk26 (And.intro tf26x0 (And.intro tf26x1 (And.intro tk31 (And.intro te31 (And.intro tk35 (And.intro te35 (And.intro tk45 (And.intro tk47 (And.intro tk48 (And.intro ti48 (And.intro tk50 (And.intro tf50x0 (And.intro tf50x1 (And.intro tf50x2 (And.intro tk71 (And.intro te71 (And.intro tk79 (And.intro ti79 (And.intro tk87 (And.intro ti87 (And.intro tk94 (And.intro ti94 (And.intro tk99 (And.intro ta99 (And.intro tk103 (And.intro tk106 (And.intro ti106 (And.intro tk110 (And.intro tk117 (And.intro ta117 (And.intro tk129 (And.intro ta129 (And.intro tk130 (And.intro ta130 (And.intro tk131 (And.intro ta131 (And.intro tk133 (And.intro tf133x0 (And.intro tf133x1 (And.intro tk134 (And.intro ta134 (And.intro tk136 (And.intro ta136 (And.intro tk137 (ta137)))))))))))))))))))))))))))))))))))))))))))))))))))))))))))))
theorem HB : hasBody Tryz.prog 3 = true ∧
  hasBody Tryz.prog 4 = true ∧
  hasBody Tryz.prog 5 = true ∧
  hasBody Tryz.prog 6 = true ∧
  hasBody Tryz.prog 7 = true ∧
  hasBody Tryz.prog 8 = true ∧
  hasBody Tryz.prog 9 = true ∧
  hasBody Tryz.prog 10 = true ∧
  hasBody Tryz.prog 11 = true ∧
  hasBody Tryz.prog 12 = true ∧
  hasBody Tryz.prog 13 = true ∧
  hasBody Tryz.prog 14 = true ∧
  hasBody Tryz.prog 15 = true ∧
  hasBody Tryz.prog 16 = true ∧
  hasBody Tryz.prog 17 = true ∧
  hasBody Tryz.prog 18 = true ∧
  hasBody Tryz.prog 19 = true ∧
  hasBody Tryz.prog 20 = true ∧
  hasBody Tryz.prog 21 = true ∧
  hasBody Tryz.prog 22 = true ∧
  hasBody Tryz.prog 23 = true ∧
  hasBody Tryz.prog 24 = true ∧
  hasBody Tryz.prog 25 = true ∧
  hasBody Tryz.prog 26 = true ∧
  hasBody Tryz.prog 27 = true ∧
  hasBody Tryz.prog 28 = true ∧
  hasBody Tryz.prog 29 = true ∧
  hasBody Tryz.prog 30 = true ∧
  hasBody Tryz.prog 31 = true ∧
  hasBody Tryz.prog 32 = true ∧
  hasBody Tryz.prog 33 = true ∧
  hasBody Tryz.prog 34 = true ∧
  hasBody Tryz.prog 35 = true ∧
  hasBody Tryz.prog 36 = true ∧
  hasBody Tryz.prog 37 = true ∧
  hasBody Tryz.prog 38 = true ∧
  hasBody Tryz.prog 39 = true ∧
  hasBody Tryz.prog 40 = true ∧
  hasBody Tryz.prog 41 = true ∧
  hasBody Tryz.prog 42 = true ∧
  hasBody Tryz.prog 43 = true ∧
  hasBody Tryz.prog 44 = true ∧
  hasBody Tryz.prog 45 = true ∧
  hasBody Tryz.prog 46 = true ∧
  hasBody Tryz.prog 47 = true ∧
  hasBody Tryz.prog 48 = true ∧
  hasBody Tryz.prog 49 = true ∧
  hasBody Tryz.prog 50 = true ∧
  hasBody Tryz.prog 51 = true ∧
  hasBody Tryz.prog 52 = true ∧
  hasBody Tryz.prog 53 = true ∧
  hasBody Tryz.prog 54 = true ∧
  hasBody Tryz.prog 55 = true ∧
  hasBody Tryz.prog 56 = true ∧
  hasBody Tryz.prog 57 = true ∧
  hasBody Tryz.prog 58 = true ∧
  hasBody Tryz.prog 59 = true ∧
  hasBody Tryz.prog 60 = true ∧
  hasBody Tryz.prog 61 = true ∧
  hasBody Tryz.prog 62 = true ∧
  hasBody Tryz.prog 63 = true ∧
  hasBody Tryz.prog 64 = true ∧
  hasBody Tryz.prog 65 = true ∧
  hasBody Tryz.prog 66 = true ∧
  hasBody Tryz.prog 67 = true ∧
  hasBody Tryz.prog 68 = true ∧
  hasBody Tryz.prog 69 = true ∧
  hasBody Tryz.prog 70 = true ∧
  hasBody Tryz.prog 71 = true ∧
  hasBody Tryz.prog 72 = true ∧
  hasBody Tryz.prog 73 = true ∧
  hasBody Tryz.prog 74 = true ∧
  hasBody Tryz.prog 75 = true ∧
  hasBody Tryz.prog 76 = true ∧
  hasBody Tryz.prog 77 = true ∧
  hasBody Tryz.prog 78 = true ∧
  hasBody Tryz.prog 79 = true ∧
  hasBody Tryz.prog 80 = true ∧
  hasBody Tryz.prog 81 = true ∧
  hasBody Tryz.prog 82 = true ∧
  hasBody Tryz.prog 83 = true ∧
  hasBody Tryz.prog 84 = true ∧
  hasBody Tryz.prog 85 = true ∧
  hasBody Tryz.prog 86 = true ∧
  hasBody Tryz.prog 87 = true ∧
  hasBody Tryz.prog 88 = true ∧
  hasBody Tryz.prog 89 = true ∧
  hasBody Tryz.prog 90 = true ∧
  hasBody Tryz.prog 91 = true ∧
  hasBody Tryz.prog 92 = true ∧
  hasBody Tryz.prog 93 = true ∧
  hasBody Tryz.prog 94 = true ∧
  hasBody Tryz.prog 95 = true ∧
  hasBody Tryz.prog 96 = true ∧
  hasBody Tryz.prog 97 = true ∧
  hasBody Tryz.prog 98 = true ∧
  hasBody Tryz.prog 99 = true ∧
  hasBody Tryz.prog 100 = true ∧
  hasBody Tryz.prog 101 = true ∧
  hasBody Tryz.prog 102 = true ∧
  hasBody Tryz.prog 104 = true ∧
  hasBody Tryz.prog 105 = true ∧
  hasBody Tryz.prog 107 = true ∧
  hasBody Tryz.prog 108 = true ∧
  hasBody Tryz.prog 109 = true ∧
  hasBody Tryz.prog 110 = true ∧
  hasBody Tryz.prog 111 = true ∧
  hasBody Tryz.prog 112 = true ∧
  hasBody Tryz.prog 113 = true ∧
  hasBody Tryz.prog 114 = true ∧
  hasBody Tryz.prog 115 = true ∧
  hasBody Tryz.prog 116 = true ∧
  hasBody Tryz.prog 117 = true ∧
  hasBody Tryz.prog 119 = true ∧
  hasBody Tryz.prog 120 = true ∧
  hasBody Tryz.prog 121 = true ∧
  hasBody Tryz.prog 122 = true ∧
  hasBody Tryz.prog 123 = true ∧
  hasBody Tryz.prog 124 = true ∧
  hasBody Tryz.prog 125 = true ∧
  hasBody Tryz.prog 126 = true := by
  repeat' apply And.intro
  all_goals kernel_rfl
end Go.Proofs
