/- Contracts of functions, facts of types, or the plain law behind one statement (own work): TF. Conditions: those told in each theorem. -/
import Derived.Test.YtkapgaajomaheaaDoorVB
import Derived.Test.YtkapgaajomaheaaDoorProg
import Derived.KernelRfl
set_option linter.all false
namespace Go.Proofs
open Go Go.V
-- the instance of 'Laid' stands in TG (strconv's powers of ten) or TN (nothing laid)
theorem tk2 : tk Tryd.prog 2 = some ⟨1, 8, [.int .i64 0], false, 2, false⟩ := by kernel_rfl
theorem ti2 : tInt Tryd.prog 2 = some .i64 := by kernel_rfl
theorem tk3 : tk Tryd.prog 3 = some ⟨1, 8, [.int .i64 0], false, 2, false⟩ := by kernel_rfl
theorem ti3 : tInt Tryd.prog 3 = some .i64 := by kernel_rfl
theorem tk4 : tk Tryd.prog 4 = some ⟨1, 1, [.bool false], false, 1, false⟩ := by kernel_rfl
theorem tk5 : tk Tryd.prog 5 = some ⟨1, 1, [.int .u8 0], false, 2, false⟩ := by kernel_rfl
theorem ti5 : tInt Tryd.prog 5 = some .u8 := by kernel_rfl
theorem tk9 : tk Tryd.prog 9 = some ⟨1, 16, [.string ⟨#[]⟩], false, 3, false⟩ := by kernel_rfl
theorem te9 : tElem Tryd.prog 9 = none := by kernel_rfl
theorem tk21 : tk Tryd.prog 21 = some ⟨1, 4, [.int .i32 0], false, 2, false⟩ := by kernel_rfl
theorem ti21 : tInt Tryd.prog 21 = some .i32 := by kernel_rfl
theorem tk22 : tk Tryd.prog 22 = some ⟨1, 24, [.slice none 0 0], false, 5, false⟩ := by kernel_rfl
theorem te22 : tElem Tryd.prog 22 = some 5 := by kernel_rfl
theorem tk24 : tk Tryd.prog 24 = some ⟨2, 32, [.string ⟨#[]⟩, .string ⟨#[]⟩], true, 6, true⟩ := by kernel_rfl
theorem tf24x0 : tField Tryd.prog 24 0 = some (0, 9) := by kernel_rfl
theorem tf24x1 : tField Tryd.prog 24 1 = some (1, 9) := by kernel_rfl
theorem tk34 : tk Tryd.prog 34 = some ⟨2, 24, [.string ⟨#[]⟩, .int .i64 0], true, 6, true⟩ := by kernel_rfl
theorem tf34x0 : tField Tryd.prog 34 0 = some (0, 9) := by kernel_rfl
theorem tf34x1 : tField Tryd.prog 34 1 = some (1, 3) := by kernel_rfl
theorem tk39 : tk Tryd.prog 39 = some ⟨1, 24, [.slice none 0 0], false, 5, false⟩ := by kernel_rfl
theorem te39 : tElem Tryd.prog 39 = some 34 := by kernel_rfl
theorem tk44 : tk Tryd.prog 44 = some ⟨1, 8, [.pointer none], false, 4, false⟩ := by kernel_rfl
theorem tk45 : tk Tryd.prog 45 = some ⟨1, 8, [.int .u64 0], false, 2, false⟩ := by kernel_rfl
theorem ti45 : tInt Tryd.prog 45 = some .u64 := by kernel_rfl
theorem tk47 : tk Tryd.prog 47 = some ⟨3, 40, [.slice none 0 0, .int .i64 0, .int .u64 0], true, 6, true⟩ := by kernel_rfl
theorem tf47x0 : tField Tryd.prog 47 0 = some (0, 22) := by kernel_rfl
theorem tf47x1 : tField Tryd.prog 47 1 = some (1, 3) := by kernel_rfl
theorem tf47x2 : tField Tryd.prog 47 2 = some (2, 45) := by kernel_rfl
theorem tk58 : tk Tryd.prog 58 = some ⟨1, 24, [.slice none 0 0], false, 5, false⟩ := by kernel_rfl
theorem te58 : tElem Tryd.prog 58 = some 3 := by kernel_rfl
theorem tk69 : tk Tryd.prog 69 = some ⟨1, 24, [.slice none 0 0], false, 5, false⟩ := by kernel_rfl
theorem te69 : tElem Tryd.prog 69 = some 9 := by kernel_rfl
theorem tk75 : tk Tryd.prog 75 = some ⟨1, 8, [.int .u64 0], false, 2, false⟩ := by kernel_rfl
theorem ti75 : tInt Tryd.prog 75 = some .u64 := by kernel_rfl
theorem tk81 : tk Tryd.prog 81 = some ⟨256, 256, List.replicate 256 (.bool false), true, 9, false⟩ := by kernel_rfl
theorem ta81 : tArr Tryd.prog 81 = some (256, 4) := by kernel_rfl
theorem tk85 : tk Tryd.prog 85 = some ⟨1, 8, [.pointer none], false, 4, false⟩ := by kernel_rfl
theorem tk90 : tk Tryd.prog 90 = some ⟨1, 4, [.int .u32 0], false, 2, false⟩ := by kernel_rfl
theorem ti90 : tInt Tryd.prog 90 = some .u32 := by kernel_rfl
theorem tk95 : tk Tryd.prog 95 = some ⟨24, 24, List.replicate 24 (.int .u8 0), true, 9, false⟩ := by kernel_rfl
theorem ta95 : tArr Tryd.prog 95 = some (24, 5) := by kernel_rfl
theorem tk102 : tk Tryd.prog 102 = some ⟨20, 160, List.replicate 20 (.int .u64 0), true, 9, false⟩ := by kernel_rfl
theorem ta102 : tArr Tryd.prog 102 = some (20, 45) := by kernel_rfl
theorem tk103 : tk Tryd.prog 103 = some ⟨65, 65, List.replicate 65 (.int .u8 0), true, 9, false⟩ := by kernel_rfl
theorem ta103 : tArr Tryd.prog 103 = some (65, 5) := by kernel_rfl
theorem tk105 : tk Tryd.prog 105 = some ⟨256, 256, List.replicate 256 (.int .u8 0), true, 9, false⟩ := by kernel_rfl
theorem ta105 : tArr Tryd.prog 105 = some (256, 5) := by kernel_rfl
theorem tk107 : tk Tryd.prog 107 = some ⟨2, 2, [.int .u8 0, .int .u8 0], true, 6, true⟩ := by kernel_rfl
theorem tf107x0 : tField Tryd.prog 107 0 = some (0, 5) := by kernel_rfl
theorem tf107x1 : tField Tryd.prog 107 1 = some (1, 5) := by kernel_rfl
theorem tk108 : tk Tryd.prog 108 = some ⟨32, 32, List.replicate 32 (.int .u8 0), true, 9, false⟩ := by kernel_rfl
theorem ta108 : tArr Tryd.prog 108 = some (16, 107) := by kernel_rfl
theorem tk111 : tk Tryd.prog 111 = some ⟨32, 32, List.replicate 32 (.int .u8 0), true, 9, false⟩ := by kernel_rfl
theorem ta111 : tArr Tryd.prog 111 = some (32, 5) := by kernel_rfl
theorem tk112 : tk Tryd.prog 112 = some ⟨64, 64, List.replicate 64 (.int .u8 0), true, 9, false⟩ := by kernel_rfl
theorem ta112 : tArr Tryd.prog 112 = some (64, 5) := by kernel_rfl
theorem TY : tk Tryd.prog 2 = some ⟨1, 8, [.int .i64 0], false, 2, false⟩ ∧
  tInt Tryd.prog 2 = some .i64 ∧
  tk Tryd.prog 3 = some ⟨1, 8, [.int .i64 0], false, 2, false⟩ ∧
  tInt Tryd.prog 3 = some .i64 ∧
  tk Tryd.prog 4 = some ⟨1, 1, [.bool false], false, 1, false⟩ ∧
  tk Tryd.prog 5 = some ⟨1, 1, [.int .u8 0], false, 2, false⟩ ∧
  tInt Tryd.prog 5 = some .u8 ∧
  tk Tryd.prog 9 = some ⟨1, 16, [.string ⟨#[]⟩], false, 3, false⟩ ∧
  tElem Tryd.prog 9 = none ∧
  tk Tryd.prog 21 = some ⟨1, 4, [.int .i32 0], false, 2, false⟩ ∧
  tInt Tryd.prog 21 = some .i32 ∧
  tk Tryd.prog 22 = some ⟨1, 24, [.slice none 0 0], false, 5, false⟩ ∧
  tElem Tryd.prog 22 = some 5 ∧
  tk Tryd.prog 24 = some ⟨2, 32, [.string ⟨#[]⟩, .string ⟨#[]⟩], true, 6, true⟩ ∧
  tField Tryd.prog 24 0 = some (0, 9) ∧
  tField Tryd.prog 24 1 = some (1, 9) ∧
  tk Tryd.prog 34 = some ⟨2, 24, [.string ⟨#[]⟩, .int .i64 0], true, 6, true⟩ ∧
  tField Tryd.prog 34 0 = some (0, 9) ∧
  tField Tryd.prog 34 1 = some (1, 3) ∧
  tk Tryd.prog 39 = some ⟨1, 24, [.slice none 0 0], false, 5, false⟩ ∧
  tElem Tryd.prog 39 = some 34 ∧
  tk Tryd.prog 44 = some ⟨1, 8, [.pointer none], false, 4, false⟩ ∧
  tk Tryd.prog 45 = some ⟨1, 8, [.int .u64 0], false, 2, false⟩ ∧
  tInt Tryd.prog 45 = some .u64 ∧
  tk Tryd.prog 47 = some ⟨3, 40, [.slice none 0 0, .int .i64 0, .int .u64 0], true, 6, true⟩ ∧
  tField Tryd.prog 47 0 = some (0, 22) ∧
  tField Tryd.prog 47 1 = some (1, 3) ∧
  tField Tryd.prog 47 2 = some (2, 45) ∧
  tk Tryd.prog 58 = some ⟨1, 24, [.slice none 0 0], false, 5, false⟩ ∧
  tElem Tryd.prog 58 = some 3 ∧
  tk Tryd.prog 69 = some ⟨1, 24, [.slice none 0 0], false, 5, false⟩ ∧
  tElem Tryd.prog 69 = some 9 ∧
  tk Tryd.prog 75 = some ⟨1, 8, [.int .u64 0], false, 2, false⟩ ∧
  tInt Tryd.prog 75 = some .u64 ∧
  tk Tryd.prog 81 = some ⟨256, 256, List.replicate 256 (.bool false), true, 9, false⟩ ∧
  tArr Tryd.prog 81 = some (256, 4) ∧
  tk Tryd.prog 85 = some ⟨1, 8, [.pointer none], false, 4, false⟩ ∧
  tk Tryd.prog 90 = some ⟨1, 4, [.int .u32 0], false, 2, false⟩ ∧
  tInt Tryd.prog 90 = some .u32 ∧
  tk Tryd.prog 95 = some ⟨24, 24, List.replicate 24 (.int .u8 0), true, 9, false⟩ ∧
  tArr Tryd.prog 95 = some (24, 5) ∧
  tk Tryd.prog 102 = some ⟨20, 160, List.replicate 20 (.int .u64 0), true, 9, false⟩ ∧
  tArr Tryd.prog 102 = some (20, 45) ∧
  tk Tryd.prog 103 = some ⟨65, 65, List.replicate 65 (.int .u8 0), true, 9, false⟩ ∧
  tArr Tryd.prog 103 = some (65, 5) ∧
  tk Tryd.prog 105 = some ⟨256, 256, List.replicate 256 (.int .u8 0), true, 9, false⟩ ∧
  tArr Tryd.prog 105 = some (256, 5) ∧
  tk Tryd.prog 107 = some ⟨2, 2, [.int .u8 0, .int .u8 0], true, 6, true⟩ ∧
  tField Tryd.prog 107 0 = some (0, 5) ∧
  tField Tryd.prog 107 1 = some (1, 5) ∧
  tk Tryd.prog 108 = some ⟨32, 32, List.replicate 32 (.int .u8 0), true, 9, false⟩ ∧
  tArr Tryd.prog 108 = some (16, 107) ∧
  tk Tryd.prog 111 = some ⟨32, 32, List.replicate 32 (.int .u8 0), true, 9, false⟩ ∧
  tArr Tryd.prog 111 = some (32, 5) ∧
  tk Tryd.prog 112 = some ⟨64, 64, List.replicate 64 (.int .u8 0), true, 9, false⟩ ∧
  tArr Tryd.prog 112 = some (64, 5) := And.intro tk2 (And.intro ti2 (And.intro tk3 (And.intro ti3 (And.intro tk4 (And.intro tk5 (And.intro ti5 (And.intro tk9 (And.intro te9 (And.intro tk21 (And.intro ti21 (And.intro tk22 (And.intro te22 (And.intro tk24 (And.intro tf24x0 (And.intro tf24x1 (And.intro tk34 (And.intro tf34x0 (And.intro tf34x1 (And.intro tk39 (And.intro te39 (And.intro tk44 (And.intro tk45 (And.intro ti45 (And.intro tk47 (And.intro tf47x0 (And.intro tf47x1 (And.intro tf47x2 (And.intro tk58 (And.intro te58 (And.intro tk69 (And.intro te69 (And.intro tk75 (And.intro ti75 (And.intro tk81 (And.intro ta81 (And.intro tk85 (And.intro tk90 (And.intro ti90 (And.intro tk95 (And.intro ta95 (And.intro tk102 (And.intro ta102 (And.intro tk103 (And.intro ta103 (And.intro tk105 (And.intro ta105 (And.intro tk107 (And.intro tf107x0 (And.intro tf107x1 (And.intro tk108 (And.intro ta108 (And.intro tk111 (And.intro ta111 (And.intro tk112 (ta112)))))))))))))))))))))))))))))))))))))))))))))))))))))))
theorem HB : hasBody Tryd.prog 3 = true ∧
  hasBody Tryd.prog 4 = true ∧
  hasBody Tryd.prog 5 = true ∧
  hasBody Tryd.prog 6 = true ∧
  hasBody Tryd.prog 7 = true ∧
  hasBody Tryd.prog 8 = true ∧
  hasBody Tryd.prog 9 = true ∧
  hasBody Tryd.prog 10 = true ∧
  hasBody Tryd.prog 11 = true ∧
  hasBody Tryd.prog 12 = true ∧
  hasBody Tryd.prog 13 = true ∧
  hasBody Tryd.prog 14 = true ∧
  hasBody Tryd.prog 15 = true ∧
  hasBody Tryd.prog 16 = true ∧
  hasBody Tryd.prog 17 = true ∧
  hasBody Tryd.prog 18 = true ∧
  hasBody Tryd.prog 19 = true ∧
  hasBody Tryd.prog 20 = true ∧
  hasBody Tryd.prog 21 = true ∧
  hasBody Tryd.prog 22 = true ∧
  hasBody Tryd.prog 23 = true ∧
  hasBody Tryd.prog 24 = true ∧
  hasBody Tryd.prog 25 = true ∧
  hasBody Tryd.prog 26 = true ∧
  hasBody Tryd.prog 27 = true ∧
  hasBody Tryd.prog 28 = true ∧
  hasBody Tryd.prog 29 = true ∧
  hasBody Tryd.prog 30 = true ∧
  hasBody Tryd.prog 31 = true ∧
  hasBody Tryd.prog 32 = true ∧
  hasBody Tryd.prog 33 = true ∧
  hasBody Tryd.prog 34 = true ∧
  hasBody Tryd.prog 35 = true ∧
  hasBody Tryd.prog 36 = true ∧
  hasBody Tryd.prog 37 = true ∧
  hasBody Tryd.prog 38 = true ∧
  hasBody Tryd.prog 39 = true ∧
  hasBody Tryd.prog 40 = true ∧
  hasBody Tryd.prog 41 = true ∧
  hasBody Tryd.prog 42 = true ∧
  hasBody Tryd.prog 43 = true ∧
  hasBody Tryd.prog 44 = true ∧
  hasBody Tryd.prog 45 = true ∧
  hasBody Tryd.prog 46 = true ∧
  hasBody Tryd.prog 47 = true ∧
  hasBody Tryd.prog 48 = true ∧
  hasBody Tryd.prog 49 = true ∧
  hasBody Tryd.prog 50 = true ∧
  hasBody Tryd.prog 51 = true ∧
  hasBody Tryd.prog 52 = true ∧
  hasBody Tryd.prog 53 = true ∧
  hasBody Tryd.prog 54 = true ∧
  hasBody Tryd.prog 55 = true ∧
  hasBody Tryd.prog 57 = true ∧
  hasBody Tryd.prog 58 = true ∧
  hasBody Tryd.prog 60 = true ∧
  hasBody Tryd.prog 61 = true ∧
  hasBody Tryd.prog 62 = true ∧
  hasBody Tryd.prog 63 = true ∧
  hasBody Tryd.prog 64 = true ∧
  hasBody Tryd.prog 65 = true ∧
  hasBody Tryd.prog 66 = true ∧
  hasBody Tryd.prog 67 = true ∧
  hasBody Tryd.prog 68 = true ∧
  hasBody Tryd.prog 69 = true ∧
  hasBody Tryd.prog 70 = true ∧
  hasBody Tryd.prog 71 = true ∧
  hasBody Tryd.prog 73 = true ∧
  hasBody Tryd.prog 74 = true ∧
  hasBody Tryd.prog 75 = true ∧
  hasBody Tryd.prog 76 = true ∧
  hasBody Tryd.prog 77 = true ∧
  hasBody Tryd.prog 78 = true ∧
  hasBody Tryd.prog 79 = true ∧
  hasBody Tryd.prog 80 = true ∧
  hasBody Tryd.prog 81 = true ∧
  hasBody Tryd.prog 82 = true ∧
  hasBody Tryd.prog 83 = true ∧
  hasBody Tryd.prog 84 = true ∧
  hasBody Tryd.prog 85 = true ∧
  hasBody Tryd.prog 86 = true ∧
  hasBody Tryd.prog 87 = true ∧
  hasBody Tryd.prog 88 = true ∧
  hasBody Tryd.prog 89 = true ∧
  hasBody Tryd.prog 90 = true ∧
  hasBody Tryd.prog 91 = true := by
  repeat' apply And.intro
  all_goals kernel_rfl
end Go.Proofs
