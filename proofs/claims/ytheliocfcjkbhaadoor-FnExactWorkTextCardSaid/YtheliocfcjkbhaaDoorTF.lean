/- Contracts of functions, facts of types, or the plain law behind one statement (own work): TF. Conditions: those told in each theorem. -/
import Derived.Test.YtheliocfcjkbhaaDoorV30
import Derived.Test.YtheliocfcjkbhaaDoorProg
import Derived.KernelRfl
set_option linter.all false
namespace Go.Proofs
open Go Go.V
-- the instance of 'Laid' stands in TG (strconv's powers of ten) or TN (nothing laid)
theorem tk2 : tk Tryd.prog 2 = some ⟨1, 8, [.int .i64 0], false, 2, false⟩ := by kernel_rfl
theorem ti2 : tInt Tryd.prog 2 = some .i64 := by kernel_rfl
theorem tk3 : tk Tryd.prog 3 = some ⟨1, 8, [.int .i64 0], false, 2, false⟩ := by kernel_rfl
theorem ti3 : tInt Tryd.prog 3 = some .i64 := by kernel_rfl
theorem tk4 : tk Tryd.prog 4 = some ⟨1, 1, [.bool false], false, 1, false⟩ := by kernel_rfl
theorem tk5 : tk Tryd.prog 5 = some ⟨1, 1, [.int .u8 0], false, 2, false⟩ := by kernel_rfl
theorem ti5 : tInt Tryd.prog 5 = some .u8 := by kernel_rfl
theorem tk9 : tk Tryd.prog 9 = some ⟨1, 16, [.string ⟨#[]⟩], false, 3, false⟩ := by kernel_rfl
theorem te9 : tElem Tryd.prog 9 = none := by kernel_rfl
theorem tk21 : tk Tryd.prog 21 = some ⟨1, 4, [.int .i32 0], false, 2, false⟩ := by kernel_rfl
theorem ti21 : tInt Tryd.prog 21 = some .i32 := by kernel_rfl
theorem tk22 : tk Tryd.prog 22 = some ⟨1, 24, [.slice none 0 0], false, 5, false⟩ := by kernel_rfl
theorem te22 : tElem Tryd.prog 22 = some 56 := by kernel_rfl
theorem tk24 : tk Tryd.prog 24 = some ⟨5, 104, [.slice none 0 0, .slice none 0 0, .slice none 0 0, .slice none 0 0, .int .i64 0], true, 6, true⟩ := by kernel_rfl
theorem tf24x0 : tField Tryd.prog 24 0 = some (0, 22) := by kernel_rfl
theorem tf24x1 : tField Tryd.prog 24 1 = some (1, 22) := by kernel_rfl
theorem tf24x2 : tField Tryd.prog 24 2 = some (2, 22) := by kernel_rfl
theorem tf24x3 : tField Tryd.prog 24 3 = some (3, 22) := by kernel_rfl
theorem tf24x4 : tField Tryd.prog 24 4 = some (4, 3) := by kernel_rfl
theorem tk28 : tk Tryd.prog 28 = some ⟨1, 24, [.slice none 0 0], false, 5, false⟩ := by kernel_rfl
theorem te28 : tElem Tryd.prog 28 = some 59 := by kernel_rfl
theorem tk30 : tk Tryd.prog 30 = some ⟨5, 104, [.slice none 0 0, .slice none 0 0, .slice none 0 0, .slice none 0 0, .int .i64 0], true, 6, true⟩ := by kernel_rfl
theorem tf30x0 : tField Tryd.prog 30 0 = some (0, 28) := by kernel_rfl
theorem tf30x1 : tField Tryd.prog 30 1 = some (1, 28) := by kernel_rfl
theorem tf30x2 : tField Tryd.prog 30 2 = some (2, 28) := by kernel_rfl
theorem tf30x3 : tField Tryd.prog 30 3 = some (3, 28) := by kernel_rfl
theorem tf30x4 : tField Tryd.prog 30 4 = some (4, 3) := by kernel_rfl
theorem tk35 : tk Tryd.prog 35 = some ⟨2, 24, [.string ⟨#[]⟩, .int .i64 0], true, 6, true⟩ := by kernel_rfl
theorem tf35x0 : tField Tryd.prog 35 0 = some (0, 9) := by kernel_rfl
theorem tf35x1 : tField Tryd.prog 35 1 = some (1, 3) := by kernel_rfl
theorem tk38 : tk Tryd.prog 38 = some ⟨2, 24, [.string ⟨#[]⟩, .int .i64 0], true, 6, true⟩ := by kernel_rfl
theorem tf38x0 : tField Tryd.prog 38 0 = some (0, 9) := by kernel_rfl
theorem tf38x1 : tField Tryd.prog 38 1 = some (1, 3) := by kernel_rfl
theorem tk47 : tk Tryd.prog 47 = some ⟨1, 8, [.pointer none], false, 4, false⟩ := by kernel_rfl
theorem tk54 : tk Tryd.prog 54 = some ⟨1, 24, [.slice none 0 0], false, 5, false⟩ := by kernel_rfl
theorem te54 : tElem Tryd.prog 54 = some 3 := by kernel_rfl
theorem tk56 : tk Tryd.prog 56 = some ⟨3, 56, [.int .i64 0, .slice none 0 0, .slice none 0 0], true, 6, true⟩ := by kernel_rfl
theorem tf56x0 : tField Tryd.prog 56 0 = some (0, 3) := by kernel_rfl
theorem tf56x1 : tField Tryd.prog 56 1 = some (1, 54) := by kernel_rfl
theorem tf56x2 : tField Tryd.prog 56 2 = some (2, 54) := by kernel_rfl
theorem tk57 : tk Tryd.prog 57 = some ⟨1, 24, [.slice none 0 0], false, 5, false⟩ := by kernel_rfl
theorem te57 : tElem Tryd.prog 57 = some 28 := by kernel_rfl
theorem tk59 : tk Tryd.prog 59 = some ⟨3, 56, [.int .i64 0, .slice none 0 0, .slice none 0 0], true, 6, true⟩ := by kernel_rfl
theorem tf59x0 : tField Tryd.prog 59 0 = some (0, 3) := by kernel_rfl
theorem tf59x1 : tField Tryd.prog 59 1 = some (1, 54) := by kernel_rfl
theorem tf59x2 : tField Tryd.prog 59 2 = some (2, 54) := by kernel_rfl
theorem tk62 : tk Tryd.prog 62 = some ⟨1, 24, [.slice none 0 0], false, 5, false⟩ := by kernel_rfl
theorem te62 : tElem Tryd.prog 62 = some 9 := by kernel_rfl
theorem tk69 : tk Tryd.prog 69 = some ⟨1, 8, [.pointer none], false, 4, false⟩ := by kernel_rfl
theorem tk74 : tk Tryd.prog 74 = some ⟨1, 24, [.slice none 0 0], false, 5, false⟩ := by kernel_rfl
theorem te74 : tElem Tryd.prog 74 = some 5 := by kernel_rfl
theorem tk78 : tk Tryd.prog 78 = some ⟨1, 8, [.int .u64 0], false, 2, false⟩ := by kernel_rfl
theorem ti78 : tInt Tryd.prog 78 = some .u64 := by kernel_rfl
theorem tk82 : tk Tryd.prog 82 = some ⟨256, 256, List.replicate 256 (.bool false), true, 9, false⟩ := by kernel_rfl
theorem ta82 : tArr Tryd.prog 82 = some (256, 4) := by kernel_rfl
theorem tk86 : tk Tryd.prog 86 = some ⟨1, 8, [.pointer none], false, 4, false⟩ := by kernel_rfl
theorem tk87 : tk Tryd.prog 87 = some ⟨24, 24, List.replicate 24 (.int .u8 0), true, 9, false⟩ := by kernel_rfl
theorem ta87 : tArr Tryd.prog 87 = some (24, 5) := by kernel_rfl
theorem tk88 : tk Tryd.prog 88 = some ⟨1, 8, [.int .u64 0], false, 2, false⟩ := by kernel_rfl
theorem ti88 : tInt Tryd.prog 88 = some .u64 := by kernel_rfl
theorem tk98 : tk Tryd.prog 98 = some ⟨20, 160, List.replicate 20 (.int .u64 0), true, 9, false⟩ := by kernel_rfl
theorem ta98 : tArr Tryd.prog 98 = some (20, 88) := by kernel_rfl
theorem tk99 : tk Tryd.prog 99 = some ⟨1, 4, [.int .u32 0], false, 2, false⟩ := by kernel_rfl
theorem ti99 : tInt Tryd.prog 99 = some .u32 := by kernel_rfl
theorem tk100 : tk Tryd.prog 100 = some ⟨65, 65, List.replicate 65 (.int .u8 0), true, 9, false⟩ := by kernel_rfl
theorem ta100 : tArr Tryd.prog 100 = some (65, 5) := by kernel_rfl
theorem tk105 : tk Tryd.prog 105 = some ⟨256, 256, List.replicate 256 (.int .u8 0), true, 9, false⟩ := by kernel_rfl
theorem ta105 : tArr Tryd.prog 105 = some (256, 5) := by kernel_rfl
theorem tk107 : tk Tryd.prog 107 = some ⟨2, 2, [.int .u8 0, .int .u8 0], true, 6, true⟩ := by kernel_rfl
theorem tf107x0 : tField Tryd.prog 107 0 = some (0, 5) := by kernel_rfl
theorem tf107x1 : tField Tryd.prog 107 1 = some (1, 5) := by kernel_rfl
theorem tk108 : tk Tryd.prog 108 = some ⟨32, 32, List.replicate 32 (.int .u8 0), true, 9, false⟩ := by kernel_rfl
theorem ta108 : tArr Tryd.prog 108 = some (16, 107) := by kernel_rfl
theorem tk112 : tk Tryd.prog 112 = some ⟨32, 32, List.replicate 32 (.int .u8 0), true, 9, false⟩ := by kernel_rfl
theorem ta112 : tArr Tryd.prog 112 = some (32, 5) := by kernel_rfl
theorem tk113 : tk Tryd.prog 113 = some ⟨64, 64, List.replicate 64 (.int .u8 0), true, 9, false⟩ := by kernel_rfl
theorem ta113 : tArr Tryd.prog 113 = some (64, 5) := by kernel_rfl
theorem TY : tk Tryd.prog 2 = some ⟨1, 8, [.int .i64 0], false, 2, false⟩ ∧
  tInt Tryd.prog 2 = some .i64 ∧
  tk Tryd.prog 3 = some ⟨1, 8, [.int .i64 0], false, 2, false⟩ ∧
  tInt Tryd.prog 3 = some .i64 ∧
  tk Tryd.prog 4 = some ⟨1, 1, [.bool false], false, 1, false⟩ ∧
  tk Tryd.prog 5 = some ⟨1, 1, [.int .u8 0], false, 2, false⟩ ∧
  tInt Tryd.prog 5 = some .u8 ∧
  tk Tryd.prog 9 = some ⟨1, 16, [.string ⟨#[]⟩], false, 3, false⟩ ∧
  tElem Tryd.prog 9 = none ∧
  tk Tryd.prog 21 = some ⟨1, 4, [.int .i32 0], false, 2, false⟩ ∧
  tInt Tryd.prog 21 = some .i32 ∧
  tk Tryd.prog 22 = some ⟨1, 24, [.slice none 0 0], false, 5, false⟩ ∧
  tElem Tryd.prog 22 = some 56 ∧
  tk Tryd.prog 24 = some ⟨5, 104, [.slice none 0 0, .slice none 0 0, .slice none 0 0, .slice none 0 0, .int .i64 0], true, 6, true⟩ ∧
  tField Tryd.prog 24 0 = some (0, 22) ∧
  tField Tryd.prog 24 1 = some (1, 22) ∧
  tField Tryd.prog 24 2 = some (2, 22) ∧
  tField Tryd.prog 24 3 = some (3, 22) ∧
  tField Tryd.prog 24 4 = some (4, 3) ∧
  tk Tryd.prog 28 = some ⟨1, 24, [.slice none 0 0], false, 5, false⟩ ∧
  tElem Tryd.prog 28 = some 59 ∧
  tk Tryd.prog 30 = some ⟨5, 104, [.slice none 0 0, .slice none 0 0, .slice none 0 0, .slice none 0 0, .int .i64 0], true, 6, true⟩ ∧
  tField Tryd.prog 30 0 = some (0, 28) ∧
  tField Tryd.prog 30 1 = some (1, 28) ∧
  tField Tryd.prog 30 2 = some (2, 28) ∧
  tField Tryd.prog 30 3 = some (3, 28) ∧
  tField Tryd.prog 30 4 = some (4, 3) ∧
  tk Tryd.prog 35 = some ⟨2, 24, [.string ⟨#[]⟩, .int .i64 0], true, 6, true⟩ ∧
  tField Tryd.prog 35 0 = some (0, 9) ∧
  tField Tryd.prog 35 1 = some (1, 3) ∧
  tk Tryd.prog 38 = some ⟨2, 24, [.string ⟨#[]⟩, .int .i64 0], true, 6, true⟩ ∧
  tField Tryd.prog 38 0 = some (0, 9) ∧
  tField Tryd.prog 38 1 = some (1, 3) ∧
  tk Tryd.prog 47 = some ⟨1, 8, [.pointer none], false, 4, false⟩ ∧
  tk Tryd.prog 54 = some ⟨1, 24, [.slice none 0 0], false, 5, false⟩ ∧
  tElem Tryd.prog 54 = some 3 ∧
  tk Tryd.prog 56 = some ⟨3, 56, [.int .i64 0, .slice none 0 0, .slice none 0 0], true, 6, true⟩ ∧
  tField Tryd.prog 56 0 = some (0, 3) ∧
  tField Tryd.prog 56 1 = some (1, 54) ∧
  tField Tryd.prog 56 2 = some (2, 54) ∧
  tk Tryd.prog 57 = some ⟨1, 24, [.slice none 0 0], false, 5, false⟩ ∧
  tElem Tryd.prog 57 = some 28 ∧
  tk Tryd.prog 59 = some ⟨3, 56, [.int .i64 0, .slice none 0 0, .slice none 0 0], true, 6, true⟩ ∧
  tField Tryd.prog 59 0 = some (0, 3) ∧
  tField Tryd.prog 59 1 = some (1, 54) ∧
  tField Tryd.prog 59 2 = some (2, 54) ∧
  tk Tryd.prog 62 = some ⟨1, 24, [.slice none 0 0], false, 5, false⟩ ∧
  tElem Tryd.prog 62 = some 9 ∧
  tk Tryd.prog 69 = some ⟨1, 8, [.pointer none], false, 4, false⟩ ∧
  tk Tryd.prog 74 = some ⟨1, 24, [.slice none 0 0], false, 5, false⟩ ∧
  tElem Tryd.prog 74 = some 5 ∧
  tk Tryd.prog 78 = some ⟨1, 8, [.int .u64 0], false, 2, false⟩ ∧
  tInt Tryd.prog 78 = some .u64 ∧
  tk Tryd.prog 82 = some ⟨256, 256, List.replicate 256 (.bool false), true, 9, false⟩ ∧
  tArr Tryd.prog 82 = some (256, 4) ∧
  tk Tryd.prog 86 = some ⟨1, 8, [.pointer none], false, 4, false⟩ ∧
  tk Tryd.prog 87 = some ⟨24, 24, List.replicate 24 (.int .u8 0), true, 9, false⟩ ∧
  tArr Tryd.prog 87 = some (24, 5) ∧
  tk Tryd.prog 88 = some ⟨1, 8, [.int .u64 0], false, 2, false⟩ ∧
  tInt Tryd.prog 88 = some .u64 ∧
  tk Tryd.prog 98 = some ⟨20, 160, List.replicate 20 (.int .u64 0), true, 9, false⟩ ∧
  tArr Tryd.prog 98 = some (20, 88) ∧
  tk Tryd.prog 99 = some ⟨1, 4, [.int .u32 0], false, 2, false⟩ ∧
  tInt Tryd.prog 99 = some .u32 ∧
  tk Tryd.prog 100 = some ⟨65, 65, List.replicate 65 (.int .u8 0), true, 9, false⟩ ∧
  tArr Tryd.prog 100 = some (65, 5) ∧
  tk Tryd.prog 105 = some ⟨256, 256, List.replicate 256 (.int .u8 0), true, 9, false⟩ ∧
  tArr Tryd.prog 105 = some (256, 5) ∧
  tk Tryd.prog 107 = some ⟨2, 2, [.int .u8 0, .int .u8 0], true, 6, true⟩ ∧
  tField Tryd.prog 107 0 = some (0, 5) ∧
  tField Tryd.prog 107 1 = some (1, 5) ∧
  tk Tryd.prog 108 = some ⟨32, 32, List.replicate 32 (.int .u8 0), true, 9, false⟩ ∧
  tArr Tryd.prog 108 = some (16, 107) ∧
  tk Tryd.prog 112 = some ⟨32, 32, List.replicate 32 (.int .u8 0), true, 9, false⟩ ∧
  tArr Tryd.prog 112 = some (32, 5) ∧
  tk Tryd.prog 113 = some ⟨64, 64, List.replicate 64 (.int .u8 0), true, 9, false⟩ ∧
  tArr Tryd.prog 113 = some (64, 5) := And.intro tk2 (And.intro ti2 (And.intro tk3 (And.intro ti3 (And.intro tk4 (And.intro tk5 (And.intro ti5 (And.intro tk9 (And.intro te9 (And.intro tk21 (And.intro ti21 (And.intro tk22 (And.intro te22 (And.intro tk24 (And.intro tf24x0 (And.intro tf24x1 (And.intro tf24x2 (And.intro tf24x3 (And.intro tf24x4 (And.intro tk28 (And.intro te28 (And.intro tk30 (And.intro tf30x0 (And.intro tf30x1 (And.intro tf30x2 (And.intro tf30x3 (And.intro tf30x4 (And.intro tk35 (And.intro tf35x0 (And.intro tf35x1 (And.intro tk38 (And.intro tf38x0 (And.intro tf38x1 (And.intro tk47 (And.intro tk54 (And.intro te54 (And.intro tk56 (And.intro tf56x0 (And.intro tf56x1 (And.intro tf56x2 (And.intro tk57 (And.intro te57 (And.intro tk59 (And.intro tf59x0 (And.intro tf59x1 (And.intro tf59x2 (And.intro tk62 (And.intro te62 (And.intro tk69 (And.intro tk74 (And.intro te74 (And.intro tk78 (And.intro ti78 (And.intro tk82 (And.intro ta82 (And.intro tk86 (And.intro tk87 (And.intro ta87 (And.intro tk88 (And.intro ti88 (And.intro tk98 (And.intro ta98 (And.intro tk99 (And.intro ti99 (And.intro tk100 (And.intro ta100 (And.intro tk105 (And.intro ta105 (And.intro tk107 (And.intro tf107x0 (And.intro tf107x1 (And.intro tk108 (And.intro ta108 (And.intro tk112 (And.intro ta112 (And.intro tk113 (ta113))))))))))))))))))))))))))))))))))))))))))))))))))))))))))))))))))))))))))))
theorem HB : hasBody Tryd.prog 3 = true ∧
  hasBody Tryd.prog 4 = true ∧
  hasBody Tryd.prog 5 = true ∧
  hasBody Tryd.prog 6 = true ∧
  hasBody Tryd.prog 7 = true ∧
  hasBody Tryd.prog 8 = true ∧
  hasBody Tryd.prog 9 = true ∧
  hasBody Tryd.prog 10 = true ∧
  hasBody Tryd.prog 11 = true ∧
  hasBody Tryd.prog 12 = true ∧
  hasBody Tryd.prog 13 = true ∧
  hasBody Tryd.prog 14 = true ∧
  hasBody Tryd.prog 15 = true ∧
  hasBody Tryd.prog 16 = true ∧
  hasBody Tryd.prog 17 = true ∧
  hasBody Tryd.prog 18 = true ∧
  hasBody Tryd.prog 19 = true ∧
  hasBody Tryd.prog 20 = true ∧
  hasBody Tryd.prog 21 = true ∧
  hasBody Tryd.prog 22 = true ∧
  hasBody Tryd.prog 23 = true ∧
  hasBody Tryd.prog 24 = true ∧
  hasBody Tryd.prog 25 = true ∧
  hasBody Tryd.prog 26 = true ∧
  hasBody Tryd.prog 27 = true ∧
  hasBody Tryd.prog 28 = true ∧
  hasBody Tryd.prog 29 = true ∧
  hasBody Tryd.prog 30 = true ∧
  hasBody Tryd.prog 31 = true ∧
  hasBody Tryd.prog 32 = true ∧
  hasBody Tryd.prog 33 = true ∧
  hasBody Tryd.prog 34 = true ∧
  hasBody Tryd.prog 35 = true ∧
  hasBody Tryd.prog 36 = true ∧
  hasBody Tryd.prog 37 = true ∧
  hasBody Tryd.prog 38 = true ∧
  hasBody Tryd.prog 39 = true ∧
  hasBody Tryd.prog 40 = true ∧
  hasBody Tryd.prog 41 = true ∧
  hasBody Tryd.prog 42 = true ∧
  hasBody Tryd.prog 43 = true ∧
  hasBody Tryd.prog 44 = true ∧
  hasBody Tryd.prog 45 = true ∧
  hasBody Tryd.prog 46 = true ∧
  hasBody Tryd.prog 47 = true ∧
  hasBody Tryd.prog 48 = true ∧
  hasBody Tryd.prog 49 = true ∧
  hasBody Tryd.prog 50 = true ∧
  hasBody Tryd.prog 51 = true ∧
  hasBody Tryd.prog 52 = true ∧
  hasBody Tryd.prog 53 = true ∧
  hasBody Tryd.prog 54 = true ∧
  hasBody Tryd.prog 55 = true ∧
  hasBody Tryd.prog 56 = true ∧
  hasBody Tryd.prog 57 = true ∧
  hasBody Tryd.prog 58 = true ∧
  hasBody Tryd.prog 59 = true ∧
  hasBody Tryd.prog 60 = true ∧
  hasBody Tryd.prog 61 = true ∧
  hasBody Tryd.prog 62 = true ∧
  hasBody Tryd.prog 63 = true ∧
  hasBody Tryd.prog 64 = true ∧
  hasBody Tryd.prog 65 = true ∧
  hasBody Tryd.prog 66 = true ∧
  hasBody Tryd.prog 67 = true ∧
  hasBody Tryd.prog 68 = true ∧
  hasBody Tryd.prog 69 = true ∧
  hasBody Tryd.prog 70 = true ∧
  hasBody Tryd.prog 71 = true ∧
  hasBody Tryd.prog 72 = true ∧
  hasBody Tryd.prog 73 = true ∧
  hasBody Tryd.prog 74 = true ∧
  hasBody Tryd.prog 75 = true ∧
  hasBody Tryd.prog 76 = true ∧
  hasBody Tryd.prog 77 = true ∧
  hasBody Tryd.prog 78 = true ∧
  hasBody Tryd.prog 79 = true ∧
  hasBody Tryd.prog 80 = true ∧
  hasBody Tryd.prog 81 = true ∧
  hasBody Tryd.prog 82 = true ∧
  hasBody Tryd.prog 83 = true ∧
  hasBody Tryd.prog 85 = true := by
  repeat' apply And.intro
  all_goals kernel_rfl
end Go.Proofs
