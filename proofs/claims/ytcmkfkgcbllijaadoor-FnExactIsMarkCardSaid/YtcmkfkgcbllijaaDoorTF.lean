/- Contracts of functions, facts of types, or the plain law behind one statement (own work): TF. Conditions: those told in each theorem. -/
import Derived.Test.YtcmkfkgcbllijaaDoorV30
import Derived.Test.YtcmkfkgcbllijaaDoorProg
import Derived.KernelRfl
set_option linter.all false
namespace Go.Proofs
open Go Go.V
-- the instance of 'Laid' stands in TG (strconv's powers of ten) or TN (nothing laid)
theorem tk2 : tk Tryd.prog 2 = some ⟨1, 8, [.int .i64 0], false, 2, false⟩ := by kernel_rfl
theorem ti2 : tInt Tryd.prog 2 = some .i64 := by kernel_rfl
theorem tk3 : tk Tryd.prog 3 = some ⟨1, 8, [.int .i64 0], false, 2, false⟩ := by kernel_rfl
theorem ti3 : tInt Tryd.prog 3 = some .i64 := by kernel_rfl
theorem tk4 : tk Tryd.prog 4 = some ⟨1, 1, [.bool false], false, 1, false⟩ := by kernel_rfl
theorem tk5 : tk Tryd.prog 5 = some ⟨1, 1, [.int .u8 0], false, 2, false⟩ := by kernel_rfl
theorem ti5 : tInt Tryd.prog 5 = some .u8 := by kernel_rfl
theorem tk9 : tk Tryd.prog 9 = some ⟨1, 16, [.string ⟨#[]⟩], false, 3, false⟩ := by kernel_rfl
theorem te9 : tElem Tryd.prog 9 = none := by kernel_rfl
theorem tk21 : tk Tryd.prog 21 = some ⟨1, 4, [.int .i32 0], false, 2, false⟩ := by kernel_rfl
theorem ti21 : tInt Tryd.prog 21 = some .i32 := by kernel_rfl
theorem tk26 : tk Tryd.prog 26 = some ⟨2, 24, [.string ⟨#[]⟩, .int .i64 0], true, 6, true⟩ := by kernel_rfl
theorem tf26x0 : tField Tryd.prog 26 0 = some (0, 9) := by kernel_rfl
theorem tf26x1 : tField Tryd.prog 26 1 = some (1, 3) := by kernel_rfl
theorem tk29 : tk Tryd.prog 29 = some ⟨2, 24, [.string ⟨#[]⟩, .int .i64 0], true, 6, true⟩ := by kernel_rfl
theorem tf29x0 : tField Tryd.prog 29 0 = some (0, 9) := by kernel_rfl
theorem tf29x1 : tField Tryd.prog 29 1 = some (1, 3) := by kernel_rfl
theorem tk37 : tk Tryd.prog 37 = some ⟨1, 24, [.slice none 0 0], false, 5, false⟩ := by kernel_rfl
theorem te37 : tElem Tryd.prog 37 = some 5 := by kernel_rfl
theorem tk42 : tk Tryd.prog 42 = some ⟨256, 256, List.replicate 256 (.bool false), true, 9, false⟩ := by kernel_rfl
theorem ta42 : tArr Tryd.prog 42 = some (256, 4) := by kernel_rfl
theorem tk46 : tk Tryd.prog 46 = some ⟨1, 8, [.pointer none], false, 4, false⟩ := by kernel_rfl
theorem tk47 : tk Tryd.prog 47 = some ⟨24, 24, List.replicate 24 (.int .u8 0), true, 9, false⟩ := by kernel_rfl
theorem ta47 : tArr Tryd.prog 47 = some (24, 5) := by kernel_rfl
theorem tk48 : tk Tryd.prog 48 = some ⟨1, 8, [.int .u64 0], false, 2, false⟩ := by kernel_rfl
theorem ti48 : tInt Tryd.prog 48 = some .u64 := by kernel_rfl
theorem tk59 : tk Tryd.prog 59 = some ⟨20, 160, List.replicate 20 (.int .u64 0), true, 9, false⟩ := by kernel_rfl
theorem ta59 : tArr Tryd.prog 59 = some (20, 48) := by kernel_rfl
theorem tk60 : tk Tryd.prog 60 = some ⟨1, 4, [.int .u32 0], false, 2, false⟩ := by kernel_rfl
theorem ti60 : tInt Tryd.prog 60 = some .u32 := by kernel_rfl
theorem tk61 : tk Tryd.prog 61 = some ⟨65, 65, List.replicate 65 (.int .u8 0), true, 9, false⟩ := by kernel_rfl
theorem ta61 : tArr Tryd.prog 61 = some (65, 5) := by kernel_rfl
theorem tk63 : tk Tryd.prog 63 = some ⟨1, 8, [.int .u64 0], false, 2, false⟩ := by kernel_rfl
theorem ti63 : tInt Tryd.prog 63 = some .u64 := by kernel_rfl
theorem tk67 : tk Tryd.prog 67 = some ⟨256, 256, List.replicate 256 (.int .u8 0), true, 9, false⟩ := by kernel_rfl
theorem ta67 : tArr Tryd.prog 67 = some (256, 5) := by kernel_rfl
theorem tk69 : tk Tryd.prog 69 = some ⟨2, 2, [.int .u8 0, .int .u8 0], true, 6, true⟩ := by kernel_rfl
theorem tf69x0 : tField Tryd.prog 69 0 = some (0, 5) := by kernel_rfl
theorem tf69x1 : tField Tryd.prog 69 1 = some (1, 5) := by kernel_rfl
theorem tk70 : tk Tryd.prog 70 = some ⟨32, 32, List.replicate 32 (.int .u8 0), true, 9, false⟩ := by kernel_rfl
theorem ta70 : tArr Tryd.prog 70 = some (16, 69) := by kernel_rfl
theorem tk73 : tk Tryd.prog 73 = some ⟨32, 32, List.replicate 32 (.int .u8 0), true, 9, false⟩ := by kernel_rfl
theorem ta73 : tArr Tryd.prog 73 = some (32, 5) := by kernel_rfl
theorem tk74 : tk Tryd.prog 74 = some ⟨64, 64, List.replicate 64 (.int .u8 0), true, 9, false⟩ := by kernel_rfl
theorem ta74 : tArr Tryd.prog 74 = some (64, 5) := by kernel_rfl
theorem TY : tk Tryd.prog 2 = some ⟨1, 8, [.int .i64 0], false, 2, false⟩ ∧
  tInt Tryd.prog 2 = some .i64 ∧
  tk Tryd.prog 3 = some ⟨1, 8, [.int .i64 0], false, 2, false⟩ ∧
  tInt Tryd.prog 3 = some .i64 ∧
  tk Tryd.prog 4 = some ⟨1, 1, [.bool false], false, 1, false⟩ ∧
  tk Tryd.prog 5 = some ⟨1, 1, [.int .u8 0], false, 2, false⟩ ∧
  tInt Tryd.prog 5 = some .u8 ∧
  tk Tryd.prog 9 = some ⟨1, 16, [.string ⟨#[]⟩], false, 3, false⟩ ∧
  tElem Tryd.prog 9 = none ∧
  tk Tryd.prog 21 = some ⟨1, 4, [.int .i32 0], false, 2, false⟩ ∧
  tInt Tryd.prog 21 = some .i32 ∧
  tk Tryd.prog 26 = some ⟨2, 24, [.string ⟨#[]⟩, .int .i64 0], true, 6, true⟩ ∧
  tField Tryd.prog 26 0 = some (0, 9) ∧
  tField Tryd.prog 26 1 = some (1, 3) ∧
  tk Tryd.prog 29 = some ⟨2, 24, [.string ⟨#[]⟩, .int .i64 0], true, 6, true⟩ ∧
  tField Tryd.prog 29 0 = some (0, 9) ∧
  tField Tryd.prog 29 1 = some (1, 3) ∧
  tk Tryd.prog 37 = some ⟨1, 24, [.slice none 0 0], false, 5, false⟩ ∧
  tElem Tryd.prog 37 = some 5 ∧
  tk Tryd.prog 42 = some ⟨256, 256, List.replicate 256 (.bool false), true, 9, false⟩ ∧
  tArr Tryd.prog 42 = some (256, 4) ∧
  tk Tryd.prog 46 = some ⟨1, 8, [.pointer none], false, 4, false⟩ ∧
  tk Tryd.prog 47 = some ⟨24, 24, List.replicate 24 (.int .u8 0), true, 9, false⟩ ∧
  tArr Tryd.prog 47 = some (24, 5) ∧
  tk Tryd.prog 48 = some ⟨1, 8, [.int .u64 0], false, 2, false⟩ ∧
  tInt Tryd.prog 48 = some .u64 ∧
  tk Tryd.prog 59 = some ⟨20, 160, List.replicate 20 (.int .u64 0), true, 9, false⟩ ∧
  tArr Tryd.prog 59 = some (20, 48) ∧
  tk Tryd.prog 60 = some ⟨1, 4, [.int .u32 0], false, 2, false⟩ ∧
  tInt Tryd.prog 60 = some .u32 ∧
  tk Tryd.prog 61 = some ⟨65, 65, List.replicate 65 (.int .u8 0), true, 9, false⟩ ∧
  tArr Tryd.prog 61 = some (65, 5) ∧
  tk Tryd.prog 63 = some ⟨1, 8, [.int .u64 0], false, 2, false⟩ ∧
  tInt Tryd.prog 63 = some .u64 ∧
  tk Tryd.prog 67 = some ⟨256, 256, List.replicate 256 (.int .u8 0), true, 9, false⟩ ∧
  tArr Tryd.prog 67 = some (256, 5) ∧
  tk Tryd.prog 69 = some ⟨2, 2, [.int .u8 0, .int .u8 0], true, 6, true⟩ ∧
  tField Tryd.prog 69 0 = some (0, 5) ∧
  tField Tryd.prog 69 1 = some (1, 5) ∧
  tk Tryd.prog 70 = some ⟨32, 32, List.replicate 32 (.int .u8 0), true, 9, false⟩ ∧
  tArr Tryd.prog 70 = some (16, 69) ∧
  tk Tryd.prog 73 = some ⟨32, 32, List.replicate 32 (.int .u8 0), true, 9, false⟩ ∧
  tArr Tryd.prog 73 = some (32, 5) ∧
  tk Tryd.prog 74 = some ⟨64, 64, List.replicate 64 (.int .u8 0), true, 9, false⟩ ∧
  tArr Tryd.prog 74 = some (64, 5) := And.intro tk2 (And.intro ti2 (And.intro tk3 (And.intro ti3 (And.intro tk4 (And.intro tk5 (And.intro ti5 (And.intro tk9 (And.intro te9 (And.intro tk21 (And.intro ti21 (And.intro tk26 (And.intro tf26x0 (And.intro tf26x1 (And.intro tk29 (And.intro tf29x0 (And.intro tf29x1 (And.intro tk37 (And.intro te37 (And.intro tk42 (And.intro ta42 (And.intro tk46 (And.intro tk47 (And.intro ta47 (And.intro tk48 (And.intro ti48 (And.intro tk59 (And.intro ta59 (And.intro tk60 (And.intro ti60 (And.intro tk61 (And.intro ta61 (And.intro tk63 (And.intro ti63 (And.intro tk67 (And.intro ta67 (And.intro tk69 (And.intro tf69x0 (And.intro tf69x1 (And.intro tk70 (And.intro ta70 (And.intro tk73 (And.intro ta73 (And.intro tk74 (ta74))))))))))))))))))))))))))))))))))))))))))))
theorem HB : hasBody Tryd.prog 3 = true ∧
  hasBody Tryd.prog 4 = true ∧
  hasBody Tryd.prog 5 = true ∧
  hasBody Tryd.prog 6 = true ∧
  hasBody Tryd.prog 7 = true ∧
  hasBody Tryd.prog 8 = true ∧
  hasBody Tryd.prog 9 = true ∧
  hasBody Tryd.prog 10 = true ∧
  hasBody Tryd.prog 11 = true ∧
  hasBody Tryd.prog 12 = true ∧
  hasBody Tryd.prog 13 = true ∧
  hasBody Tryd.prog 14 = true ∧
  hasBody Tryd.prog 15 = true ∧
  hasBody Tryd.prog 16 = true ∧
  hasBody Tryd.prog 17 = true ∧
  hasBody Tryd.prog 18 = true ∧
  hasBody Tryd.prog 19 = true ∧
  hasBody Tryd.prog 20 = true ∧
  hasBody Tryd.prog 21 = true ∧
  hasBody Tryd.prog 22 = true ∧
  hasBody Tryd.prog 23 = true ∧
  hasBody Tryd.prog 24 = true ∧
  hasBody Tryd.prog 25 = true ∧
  hasBody Tryd.prog 26 = true ∧
  hasBody Tryd.prog 27 = true ∧
  hasBody Tryd.prog 28 = true ∧
  hasBody Tryd.prog 29 = true ∧
  hasBody Tryd.prog 30 = true ∧
  hasBody Tryd.prog 31 = true ∧
  hasBody Tryd.prog 32 = true ∧
  hasBody Tryd.prog 33 = true ∧
  hasBody Tryd.prog 34 = true ∧
  hasBody Tryd.prog 35 = true ∧
  hasBody Tryd.prog 36 = true ∧
  hasBody Tryd.prog 37 = true ∧
  hasBody Tryd.prog 38 = true ∧
  hasBody Tryd.prog 39 = true ∧
  hasBody Tryd.prog 40 = true ∧
  hasBody Tryd.prog 41 = true ∧
  hasBody Tryd.prog 42 = true ∧
  hasBody Tryd.prog 43 = true ∧
  hasBody Tryd.prog 44 = true ∧
  hasBody Tryd.prog 45 = true ∧
  hasBody Tryd.prog 46 = true ∧
  hasBody Tryd.prog 47 = true ∧
  hasBody Tryd.prog 48 = true ∧
  hasBody Tryd.prog 49 = true ∧
  hasBody Tryd.prog 50 = true ∧
  hasBody Tryd.prog 51 = true ∧
  hasBody Tryd.prog 52 = true ∧
  hasBody Tryd.prog 53 = true ∧
  hasBody Tryd.prog 54 = true ∧
  hasBody Tryd.prog 55 = true ∧
  hasBody Tryd.prog 56 = true ∧
  hasBody Tryd.prog 57 = true ∧
  hasBody Tryd.prog 58 = true ∧
  hasBody Tryd.prog 59 = true ∧
  hasBody Tryd.prog 60 = true ∧
  hasBody Tryd.prog 61 = true ∧
  hasBody Tryd.prog 63 = true := by
  repeat' apply And.intro
  all_goals kernel_rfl
end Go.Proofs
