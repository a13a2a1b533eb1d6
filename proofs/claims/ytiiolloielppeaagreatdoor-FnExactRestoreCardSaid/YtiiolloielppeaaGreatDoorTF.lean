/- Contracts of functions, facts of types, or the plain law behind one statement (own work): TF. Conditions: those told in each theorem. -/
import Derived.Test.YtiiolloielppeaaGreatDoorVB
import Derived.Test.YtiiolloielppeaaGreatDoorProg
import Derived.KernelRfl
set_option linter.all false
namespace Go.Proofs
open Go Go.V
-- the instance of 'Laid' stands in TG (strconv's powers of ten) or TN (nothing laid)
theorem tk2 : tk Tryz.prog 2 = some ⟨1, 8, [.int .i64 0], false, 2, false⟩ := by kernel_rfl
theorem ti2 : tInt Tryz.prog 2 = some .i64 := by kernel_rfl
theorem tk3 : tk Tryz.prog 3 = some ⟨1, 8, [.int .i64 0], false, 2, false⟩ := by kernel_rfl
theorem ti3 : tInt Tryz.prog 3 = some .i64 := by kernel_rfl
theorem tk4 : tk Tryz.prog 4 = some ⟨1, 1, [.bool false], false, 1, false⟩ := by kernel_rfl
theorem tk5 : tk Tryz.prog 5 = some ⟨1, 1, [.int .u8 0], false, 2, false⟩ := by kernel_rfl
theorem ti5 : tInt Tryz.prog 5 = some .u8 := by kernel_rfl
theorem tk9 : tk Tryz.prog 9 = some ⟨1, 16, [.string ⟨#[]⟩], false, 3, false⟩ := by kernel_rfl
theorem te9 : tElem Tryz.prog 9 = none := by kernel_rfl
theorem tk21 : tk Tryz.prog 21 = some ⟨1, 4, [.int .i32 0], false, 2, false⟩ := by kernel_rfl
theorem ti21 : tInt Tryz.prog 21 = some .i32 := by kernel_rfl
theorem tk22 : tk Tryz.prog 22 = some ⟨1, 24, [.slice none 0 0], false, 5, false⟩ := by kernel_rfl
theorem te22 : tElem Tryz.prog 22 = some 38 := by kernel_rfl
theorem tk24 : tk Tryz.prog 24 = some ⟨5, 104, [.slice none 0 0, .slice none 0 0, .slice none 0 0, .slice none 0 0, .int .i64 0], true, 6, true⟩ := by kernel_rfl
theorem tf24x0 : tField Tryz.prog 24 0 = some (0, 22) := by kernel_rfl
theorem tf24x1 : tField Tryz.prog 24 1 = some (1, 22) := by kernel_rfl
theorem tf24x2 : tField Tryz.prog 24 2 = some (2, 22) := by kernel_rfl
theorem tf24x3 : tField Tryz.prog 24 3 = some (3, 22) := by kernel_rfl
theorem tf24x4 : tField Tryz.prog 24 4 = some (4, 3) := by kernel_rfl
theorem tk36 : tk Tryz.prog 36 = some ⟨1, 24, [.slice none 0 0], false, 5, false⟩ := by kernel_rfl
theorem te36 : tElem Tryz.prog 36 = some 3 := by kernel_rfl
theorem tk38 : tk Tryz.prog 38 = some ⟨3, 56, [.int .i64 0, .slice none 0 0, .slice none 0 0], true, 6, true⟩ := by kernel_rfl
theorem tf38x0 : tField Tryz.prog 38 0 = some (0, 3) := by kernel_rfl
theorem tf38x1 : tField Tryz.prog 38 1 = some (1, 36) := by kernel_rfl
theorem tf38x2 : tField Tryz.prog 38 2 = some (2, 36) := by kernel_rfl
theorem tk42 : tk Tryz.prog 42 = some ⟨1, 24, [.slice none 0 0], false, 5, false⟩ := by kernel_rfl
theorem te42 : tElem Tryz.prog 42 = some 9 := by kernel_rfl
theorem tk51 : tk Tryz.prog 51 = some ⟨1, 8, [.pointer none], false, 4, false⟩ := by kernel_rfl
theorem tk52 : tk Tryz.prog 52 = some ⟨1, 24, [.slice none 0 0], false, 5, false⟩ := by kernel_rfl
theorem te52 : tElem Tryz.prog 52 = some 51 := by kernel_rfl
theorem tk58 : tk Tryz.prog 58 = some ⟨1, 16, [.nilIface], false, 7, false⟩ := by kernel_rfl
theorem tk64 : tk Tryz.prog 64 = some ⟨1, 8, [.pointer none], false, 4, false⟩ := by kernel_rfl
theorem tk70 : tk Tryz.prog 70 = some ⟨1, 24, [.slice none 0 0], false, 5, false⟩ := by kernel_rfl
theorem te70 : tElem Tryz.prog 70 = some 22 := by kernel_rfl
theorem tk75 : tk Tryz.prog 75 = some ⟨1, 8, [.pointer none], false, 4, false⟩ := by kernel_rfl
theorem tk77 : tk Tryz.prog 77 = some ⟨1, 24, [.slice none 0 0], false, 5, false⟩ := by kernel_rfl
theorem te77 : tElem Tryz.prog 77 = some 5 := by kernel_rfl
theorem tk82 : tk Tryz.prog 82 = some ⟨1, 8, [.int .i64 0], false, 2, false⟩ := by kernel_rfl
theorem ti82 : tInt Tryz.prog 82 = some .i64 := by kernel_rfl
theorem tk85 : tk Tryz.prog 85 = some ⟨1, 8, [.pointer none], false, 4, false⟩ := by kernel_rfl
theorem tk88 : tk Tryz.prog 88 = some ⟨1, 8, [.int .u64 0], false, 2, false⟩ := by kernel_rfl
theorem ti88 : tInt Tryz.prog 88 = some .u64 := by kernel_rfl
theorem tk92 : tk Tryz.prog 92 = some ⟨1, 8, [.int .u64 0], false, 2, false⟩ := by kernel_rfl
theorem ti92 : tInt Tryz.prog 92 = some .u64 := by kernel_rfl
theorem tk96 : tk Tryz.prog 96 = some ⟨3, 48, [.string ⟨#[]⟩, .string ⟨#[]⟩, .nilIface], true, 6, true⟩ := by kernel_rfl
theorem tf96x0 : tField Tryz.prog 96 0 = some (0, 9) := by kernel_rfl
theorem tf96x1 : tField Tryz.prog 96 1 = some (1, 9) := by kernel_rfl
theorem tf96x2 : tField Tryz.prog 96 2 = some (2, 58) := by kernel_rfl
theorem tk98 : tk Tryz.prog 98 = some ⟨24, 24, List.replicate 24 (.int .u8 0), true, 9, false⟩ := by kernel_rfl
theorem ta98 : tArr Tryz.prog 98 = some (24, 5) := by kernel_rfl
theorem tk103 : tk Tryz.prog 103 = some ⟨1, 4, [.int .u32 0], false, 2, false⟩ := by kernel_rfl
theorem ti103 : tInt Tryz.prog 103 = some .u32 := by kernel_rfl
theorem tk107 : tk Tryz.prog 107 = some ⟨1, 8, [.pointer none], false, 4, false⟩ := by kernel_rfl
theorem tk108 : tk Tryz.prog 108 = some ⟨1, 8, [.pointer none], false, 4, false⟩ := by kernel_rfl
theorem tk110 : tk Tryz.prog 110 = some ⟨1, 16, [.string ⟨#[]⟩], true, 6, true⟩ := by kernel_rfl
theorem tf110x0 : tField Tryz.prog 110 0 = some (0, 9) := by kernel_rfl
theorem tk112 : tk Tryz.prog 112 = some ⟨20, 160, List.replicate 20 (.int .u64 0), true, 9, false⟩ := by kernel_rfl
theorem ta112 : tArr Tryz.prog 112 = some (20, 92) := by kernel_rfl
theorem tk113 : tk Tryz.prog 113 = some ⟨65, 65, List.replicate 65 (.int .u8 0), true, 9, false⟩ := by kernel_rfl
theorem ta113 : tArr Tryz.prog 113 = some (65, 5) := by kernel_rfl
theorem tk116 : tk Tryz.prog 116 = some ⟨256, 256, List.replicate 256 (.int .u8 0), true, 9, false⟩ := by kernel_rfl
theorem ta116 : tArr Tryz.prog 116 = some (256, 5) := by kernel_rfl
theorem tk118 : tk Tryz.prog 118 = some ⟨2, 2, [.int .u8 0, .int .u8 0], true, 6, true⟩ := by kernel_rfl
theorem tf118x0 : tField Tryz.prog 118 0 = some (0, 5) := by kernel_rfl
theorem tf118x1 : tField Tryz.prog 118 1 = some (1, 5) := by kernel_rfl
theorem tk119 : tk Tryz.prog 119 = some ⟨32, 32, List.replicate 32 (.int .u8 0), true, 9, false⟩ := by kernel_rfl
theorem ta119 : tArr Tryz.prog 119 = some (16, 118) := by kernel_rfl
theorem tk121 : tk Tryz.prog 121 = some ⟨32, 32, List.replicate 32 (.int .u8 0), true, 9, false⟩ := by kernel_rfl
theorem ta121 : tArr Tryz.prog 121 = some (32, 5) := by kernel_rfl
theorem tk122 : tk Tryz.prog 122 = some ⟨64, 64, List.replicate 64 (.int .u8 0), true, 9, false⟩ := by kernel_rfl
theorem ta122 : tArr Tryz.prog 122 = some (64, 5) := by kernel_rfl
theorem TY : tk Tryz.prog 2 = some ⟨1, 8, [.int .i64 0], false, 2, false⟩ ∧
  tInt Tryz.prog 2 = some .i64 ∧
  tk Tryz.prog 3 = some ⟨1, 8, [.int .i64 0], false, 2, false⟩ ∧
  tInt Tryz.prog 3 = some .i64 ∧
  tk Tryz.prog 4 = some ⟨1, 1, [.bool false], false, 1, false⟩ ∧
  tk Tryz.prog 5 = some ⟨1, 1, [.int .u8 0], false, 2, false⟩ ∧
  tInt Tryz.prog 5 = some .u8 ∧
  tk Tryz.prog 9 = some ⟨1, 16, [.string ⟨#[]⟩], false, 3, false⟩ ∧
  tElem Tryz.prog 9 = none ∧
  tk Tryz.prog 21 = some ⟨1, 4, [.int .i32 0], false, 2, false⟩ ∧
  tInt Tryz.prog 21 = some .i32 ∧
  tk Tryz.prog 22 = some ⟨1, 24, [.slice none 0 0], false, 5, false⟩ ∧
  tElem Tryz.prog 22 = some 38 ∧
  tk Tryz.prog 24 = some ⟨5, 104, [.slice none 0 0, .slice none 0 0, .slice none 0 0, .slice none 0 0, .int .i64 0], true, 6, true⟩ ∧
  tField Tryz.prog 24 0 = some (0, 22) ∧
  tField Tryz.prog 24 1 = some (1, 22) ∧
  tField Tryz.prog 24 2 = some (2, 22) ∧
  tField Tryz.prog 24 3 = some (3, 22) ∧
  tField Tryz.prog 24 4 = some (4, 3) ∧
  tk Tryz.prog 36 = some ⟨1, 24, [.slice none 0 0], false, 5, false⟩ ∧
  tElem Tryz.prog 36 = some 3 ∧
  tk Tryz.prog 38 = some ⟨3, 56, [.int .i64 0, .slice none 0 0, .slice none 0 0], true, 6, true⟩ ∧
  tField Tryz.prog 38 0 = some (0, 3) ∧
  tField Tryz.prog 38 1 = some (1, 36) ∧
  tField Tryz.prog 38 2 = some (2, 36) ∧
  tk Tryz.prog 42 = some ⟨1, 24, [.slice none 0 0], false, 5, false⟩ ∧
  tElem Tryz.prog 42 = some 9 ∧
  tk Tryz.prog 51 = some ⟨1, 8, [.pointer none], false, 4, false⟩ ∧
  tk Tryz.prog 52 = some ⟨1, 24, [.slice none 0 0], false, 5, false⟩ ∧
  tElem Tryz.prog 52 = some 51 ∧
  tk Tryz.prog 58 = some ⟨1, 16, [.nilIface], false, 7, false⟩ ∧
  tk Tryz.prog 64 = some ⟨1, 8, [.pointer none], false, 4, false⟩ ∧
  tk Tryz.prog 70 = some ⟨1, 24, [.slice none 0 0], false, 5, false⟩ ∧
  tElem Tryz.prog 70 = some 22 ∧
  tk Tryz.prog 75 = some ⟨1, 8, [.pointer none], false, 4, false⟩ ∧
  tk Tryz.prog 77 = some ⟨1, 24, [.slice none 0 0], false, 5, false⟩ ∧
  tElem Tryz.prog 77 = some 5 ∧
  tk Tryz.prog 82 = some ⟨1, 8, [.int .i64 0], false, 2, false⟩ ∧
  tInt Tryz.prog 82 = some .i64 ∧
  tk Tryz.prog 85 = some ⟨1, 8, [.pointer none], false, 4, false⟩ ∧
  tk Tryz.prog 88 = some ⟨1, 8, [.int .u64 0], false, 2, false⟩ ∧
  tInt Tryz.prog 88 = some .u64 ∧
  tk Tryz.prog 92 = some ⟨1, 8, [.int .u64 0], false, 2, false⟩ ∧
  tInt Tryz.prog 92 = some .u64 ∧
  tk Tryz.prog 96 = some ⟨3, 48, [.string ⟨#[]⟩, .string ⟨#[]⟩, .nilIface], true, 6, true⟩ ∧
  tField Tryz.prog 96 0 = some (0, 9) ∧
  tField Tryz.prog 96 1 = some (1, 9) ∧
  tField Tryz.prog 96 2 = some (2, 58) ∧
  tk Tryz.prog 98 = some ⟨24, 24, List.replicate 24 (.int .u8 0), true, 9, false⟩ ∧
  tArr Tryz.prog 98 = some (24, 5) ∧
  tk Tryz.prog 103 = some ⟨1, 4, [.int .u32 0], false, 2, false⟩ ∧
  tInt Tryz.prog 103 = some .u32 ∧
  tk Tryz.prog 107 = some ⟨1, 8, [.pointer none], false, 4, false⟩ ∧
  tk Tryz.prog 108 = some ⟨1, 8, [.pointer none], false, 4, false⟩ ∧
  tk Tryz.prog 110 = some ⟨1, 16, [.string ⟨#[]⟩], true, 6, true⟩ ∧
  tField Tryz.prog 110 0 = some (0, 9) ∧
  tk Tryz.prog 112 = some ⟨20, 160, List.replicate 20 (.int .u64 0), true, 9, false⟩ ∧
  tArr Tryz.prog 112 = some (20, 92) ∧
  tk Tryz.prog 113 = some ⟨65, 65, List.replicate 65 (.int .u8 0), true, 9, false⟩ ∧
  tArr Tryz.prog 113 = some (65, 5) ∧
  tk Tryz.prog 116 = some ⟨256, 256, List.replicate 256 (.int .u8 0), true, 9, false⟩ ∧
  tArr Tryz.prog 116 = some (256, 5) ∧
  tk Tryz.prog 118 = some ⟨2, 2, [.int .u8 0, .int .u8 0], true, 6, true⟩ ∧
  tField Tryz.prog 118 0 = some (0, 5) ∧
  tField Tryz.prog 118 1 = some (1, 5) ∧
  tk Tryz.prog 119 = some ⟨32, 32, List.replicate 32 (.int .u8 0), true, 9, false⟩ ∧
  tArr Tryz.prog 119 = some (16, 118) ∧
  tk Tryz.prog 121 = some ⟨32, 32, List.replicate 32 (.int .u8 0), true, 9, false⟩ ∧
  tArr Tryz.prog 121 = some (32, 5) ∧
  tk Tryz.prog 122 = some ⟨64, 64, List.replicate 64 (.int .u8 0), true, 9, false⟩ ∧
  tArr Tryz.prog 122 = some (64, 5) := And.intro tk2 (And.intro ti2 (And.intro tk3 (And.intro ti3 (And.intro tk4 (And.intro tk5 (And.intro ti5 (And.intro tk9 (And.intro te9 (And.intro tk21 (And.intro ti21 (And.intro tk22 (And.intro te22 (And.intro tk24 (And.intro tf24x0 (And.intro tf24x1 (And.intro tf24x2 (And.intro tf24x3 (And.intro tf24x4 (And.intro tk36 (And.intro te36 (And.intro tk38 (And.intro tf38x0 (And.intro tf38x1 (And.intro tf38x2 (And.intro tk42 (And.intro te42 (And.intro tk51 (And.intro tk52 (And.intro te52 (And.intro tk58 (And.intro tk64 (And.intro tk70 (And.intro te70 (And.intro tk75 (And.intro tk77 (And.intro te77 (And.intro tk82 (And.intro ti82 (And.intro tk85 (And.intro tk88 (And.intro ti88 (And.intro tk92 (And.intro ti92 (And.intro tk96 (And.intro tf96x0 (And.intro tf96x1 (And.intro tf96x2 (And.intro tk98 (And.intro ta98 (And.intro tk103 (And.intro ti103 (And.intro tk107 (And.intro tk108 (And.intro tk110 (And.intro tf110x0 (And.intro tk112 (And.intro ta112 (And.intro tk113 (And.intro ta113 (And.intro tk116 (And.intro ta116 (And.intro tk118 (And.intro tf118x0 (And.intro tf118x1 (And.intro tk119 (And.intro ta119 (And.intro tk121 (And.intro ta121 (And.intro tk122 (ta122))))))))))))))))))))))))))))))))))))))))))))))))))))))))))))))))))))))
theorem HB : hasBody Tryz.prog 3 = true ∧
  hasBody Tryz.prog 4 = true ∧
  hasBody Tryz.prog 5 = true ∧
  hasBody Tryz.prog 6 = true ∧
  hasBody Tryz.prog 7 = true ∧
  hasBody Tryz.prog 8 = true ∧
  hasBody Tryz.prog 9 = true ∧
  hasBody Tryz.prog 10 = true ∧
  hasBody Tryz.prog 11 = true ∧
  hasBody Tryz.prog 12 = true ∧
  hasBody Tryz.prog 13 = true ∧
  hasBody Tryz.prog 14 = true ∧
  hasBody Tryz.prog 15 = true ∧
  hasBody Tryz.prog 16 = true ∧
  hasBody Tryz.prog 17 = true ∧
  hasBody Tryz.prog 18 = true ∧
  hasBody Tryz.prog 19 = true ∧
  hasBody Tryz.prog 20 = true ∧
  hasBody Tryz.prog 21 = true ∧
  hasBody Tryz.prog 22 = true ∧
  hasBody Tryz.prog 23 = true ∧
  hasBody Tryz.prog 24 = true ∧
  hasBody Tryz.prog 25 = true ∧
  hasBody Tryz.prog 26 = true ∧
  hasBody Tryz.prog 27 = true ∧
  hasBody Tryz.prog 28 = true ∧
  hasBody Tryz.prog 29 = true ∧
  hasBody Tryz.prog 30 = true ∧
  hasBody Tryz.prog 31 = true ∧
  hasBody Tryz.prog 32 = true ∧
  hasBody Tryz.prog 33 = true ∧
  hasBody Tryz.prog 34 = true ∧
  hasBody Tryz.prog 35 = true ∧
  hasBody Tryz.prog 36 = true ∧
  hasBody Tryz.prog 37 = true ∧
  hasBody Tryz.prog 38 = true ∧
  hasBody Tryz.prog 39 = true ∧
  hasBody Tryz.prog 40 = true ∧
  hasBody Tryz.prog 41 = true ∧
  hasBody Tryz.prog 42 = true ∧
  hasBody Tryz.prog 43 = true ∧
  hasBody Tryz.prog 44 = true ∧
  hasBody Tryz.prog 45 = true ∧
  hasBody Tryz.prog 46 = true ∧
  hasBody Tryz.prog 47 = true ∧
  hasBody Tryz.prog 48 = true ∧
  hasBody Tryz.prog 49 = true ∧
  hasBody Tryz.prog 50 = true ∧
  hasBody Tryz.prog 51 = true ∧
  hasBody Tryz.prog 52 = true ∧
  hasBody Tryz.prog 53 = true ∧
  hasBody Tryz.prog 54 = true ∧
  hasBody Tryz.prog 55 = true ∧
  hasBody Tryz.prog 56 = true ∧
  hasBody Tryz.prog 57 = true ∧
  hasBody Tryz.prog 58 = true ∧
  hasBody Tryz.prog 59 = true ∧
  hasBody Tryz.prog 60 = true ∧
  hasBody Tryz.prog 61 = true ∧
  hasBody Tryz.prog 62 = true ∧
  hasBody Tryz.prog 63 = true ∧
  hasBody Tryz.prog 64 = true ∧
  hasBody Tryz.prog 65 = true ∧
  hasBody Tryz.prog 66 = true ∧
  hasBody Tryz.prog 67 = true ∧
  hasBody Tryz.prog 68 = true ∧
  hasBody Tryz.prog 69 = true ∧
  hasBody Tryz.prog 70 = true ∧
  hasBody Tryz.prog 71 = true ∧
  hasBody Tryz.prog 72 = true ∧
  hasBody Tryz.prog 73 = true ∧
  hasBody Tryz.prog 74 = true ∧
  hasBody Tryz.prog 75 = true ∧
  hasBody Tryz.prog 77 = true ∧
  hasBody Tryz.prog 79 = true ∧
  hasBody Tryz.prog 80 = true ∧
  hasBody Tryz.prog 81 = true ∧
  hasBody Tryz.prog 82 = true ∧
  hasBody Tryz.prog 83 = true ∧
  hasBody Tryz.prog 84 = true ∧
  hasBody Tryz.prog 85 = true ∧
  hasBody Tryz.prog 86 = true ∧
  hasBody Tryz.prog 87 = true ∧
  hasBody Tryz.prog 88 = true ∧
  hasBody Tryz.prog 90 = true ∧
  hasBody Tryz.prog 91 = true ∧
  hasBody Tryz.prog 92 = true ∧
  hasBody Tryz.prog 93 = true ∧
  hasBody Tryz.prog 94 = true ∧
  hasBody Tryz.prog 95 = true ∧
  hasBody Tryz.prog 96 = true ∧
  hasBody Tryz.prog 97 = true ∧
  hasBody Tryz.prog 98 = true ∧
  hasBody Tryz.prog 99 = true := by
  repeat' apply And.intro
  all_goals kernel_rfl
end Go.Proofs
