/- Contracts of functions, facts of types, or the plain law behind one statement (own work): TF. Conditions: those told in each theorem. -/
import Derived.Test.YtiiolloielppeaaDoorVB
import Derived.Test.YtiiolloielppeaaDoorProg
import Derived.KernelRfl
set_option linter.all false
namespace Go.Proofs
open Go Go.V
-- the instance of 'Laid' stands in TG (strconv's powers of ten) or TN (nothing laid)
theorem tk2 : tk Tryd.prog 2 = some ⟨1, 8, [.int .i64 0], false, 2, false⟩ := by kernel_rfl
theorem ti2 : tInt Tryd.prog 2 = some .i64 := by kernel_rfl
theorem tk3 : tk Tryd.prog 3 = some ⟨1, 8, [.int .i64 0], false, 2, false⟩ := by kernel_rfl
theorem ti3 : tInt Tryd.prog 3 = some .i64 := by kernel_rfl
theorem tk4 : tk Tryd.prog 4 = some ⟨1, 1, [.bool false], false, 1, false⟩ := by kernel_rfl
theorem tk5 : tk Tryd.prog 5 = some ⟨1, 1, [.int .u8 0], false, 2, false⟩ := by kernel_rfl
theorem ti5 : tInt Tryd.prog 5 = some .u8 := by kernel_rfl
theorem tk9 : tk Tryd.prog 9 = some ⟨1, 16, [.string ⟨#[]⟩], false, 3, false⟩ := by kernel_rfl
theorem te9 : tElem Tryd.prog 9 = none := by kernel_rfl
theorem tk21 : tk Tryd.prog 21 = some ⟨1, 4, [.int .i32 0], false, 2, false⟩ := by kernel_rfl
theorem ti21 : tInt Tryd.prog 21 = some .i32 := by kernel_rfl
theorem tk22 : tk Tryd.prog 22 = some ⟨1, 24, [.slice none 0 0], false, 5, false⟩ := by kernel_rfl
theorem te22 : tElem Tryd.prog 22 = some 61 := by kernel_rfl
theorem tk24 : tk Tryd.prog 24 = some ⟨5, 104, [.slice none 0 0, .slice none 0 0, .slice none 0 0, .slice none 0 0, .int .i64 0], true, 6, true⟩ := by kernel_rfl
theorem tf24x0 : tField Tryd.prog 24 0 = some (0, 22) := by kernel_rfl
theorem tf24x1 : tField Tryd.prog 24 1 = some (1, 22) := by kernel_rfl
theorem tf24x2 : tField Tryd.prog 24 2 = some (2, 22) := by kernel_rfl
theorem tf24x3 : tField Tryd.prog 24 3 = some (3, 22) := by kernel_rfl
theorem tf24x4 : tField Tryd.prog 24 4 = some (4, 3) := by kernel_rfl
theorem tk28 : tk Tryd.prog 28 = some ⟨1, 24, [.slice none 0 0], false, 5, false⟩ := by kernel_rfl
theorem te28 : tElem Tryd.prog 28 = some 66 := by kernel_rfl
theorem tk30 : tk Tryd.prog 30 = some ⟨5, 104, [.slice none 0 0, .slice none 0 0, .slice none 0 0, .slice none 0 0, .int .i64 0], true, 6, true⟩ := by kernel_rfl
theorem tf30x0 : tField Tryd.prog 30 0 = some (0, 28) := by kernel_rfl
theorem tf30x1 : tField Tryd.prog 30 1 = some (1, 28) := by kernel_rfl
theorem tf30x2 : tField Tryd.prog 30 2 = some (2, 28) := by kernel_rfl
theorem tf30x3 : tField Tryd.prog 30 3 = some (3, 28) := by kernel_rfl
theorem tf30x4 : tField Tryd.prog 30 4 = some (4, 3) := by kernel_rfl
theorem tk41 : tk Tryd.prog 41 = some ⟨1, 24, [.slice none 0 0], false, 5, false⟩ := by kernel_rfl
theorem te41 : tElem Tryd.prog 41 = some 9 := by kernel_rfl
theorem tk51 : tk Tryd.prog 51 = some ⟨1, 8, [.pointer none], false, 4, false⟩ := by kernel_rfl
theorem tk59 : tk Tryd.prog 59 = some ⟨1, 24, [.slice none 0 0], false, 5, false⟩ := by kernel_rfl
theorem te59 : tElem Tryd.prog 59 = some 3 := by kernel_rfl
theorem tk61 : tk Tryd.prog 61 = some ⟨3, 56, [.int .i64 0, .slice none 0 0, .slice none 0 0], true, 6, true⟩ := by kernel_rfl
theorem tf61x0 : tField Tryd.prog 61 0 = some (0, 3) := by kernel_rfl
theorem tf61x1 : tField Tryd.prog 61 1 = some (1, 59) := by kernel_rfl
theorem tf61x2 : tField Tryd.prog 61 2 = some (2, 59) := by kernel_rfl
theorem tk66 : tk Tryd.prog 66 = some ⟨3, 56, [.int .i64 0, .slice none 0 0, .slice none 0 0], true, 6, true⟩ := by kernel_rfl
theorem tf66x0 : tField Tryd.prog 66 0 = some (0, 3) := by kernel_rfl
theorem tf66x1 : tField Tryd.prog 66 1 = some (1, 59) := by kernel_rfl
theorem tf66x2 : tField Tryd.prog 66 2 = some (2, 59) := by kernel_rfl
theorem tk69 : tk Tryd.prog 69 = some ⟨1, 24, [.slice none 0 0], false, 5, false⟩ := by kernel_rfl
theorem te69 : tElem Tryd.prog 69 = some 28 := by kernel_rfl
theorem tk71 : tk Tryd.prog 71 = some ⟨1, 8, [.pointer none], false, 4, false⟩ := by kernel_rfl
theorem tk80 : tk Tryd.prog 80 = some ⟨1, 8, [.pointer none], false, 4, false⟩ := by kernel_rfl
theorem tk81 : tk Tryd.prog 81 = some ⟨1, 24, [.slice none 0 0], false, 5, false⟩ := by kernel_rfl
theorem te81 : tElem Tryd.prog 81 = some 80 := by kernel_rfl
theorem tk87 : tk Tryd.prog 87 = some ⟨1, 16, [.nilIface], false, 7, false⟩ := by kernel_rfl
theorem tk95 : tk Tryd.prog 95 = some ⟨1, 24, [.slice none 0 0], false, 5, false⟩ := by kernel_rfl
theorem te95 : tElem Tryd.prog 95 = some 5 := by kernel_rfl
theorem tk105 : tk Tryd.prog 105 = some ⟨1, 8, [.int .i64 0], false, 2, false⟩ := by kernel_rfl
theorem ti105 : tInt Tryd.prog 105 = some .i64 := by kernel_rfl
theorem tk108 : tk Tryd.prog 108 = some ⟨1, 8, [.pointer none], false, 4, false⟩ := by kernel_rfl
theorem tk111 : tk Tryd.prog 111 = some ⟨1, 8, [.int .u64 0], false, 2, false⟩ := by kernel_rfl
theorem ti111 : tInt Tryd.prog 111 = some .u64 := by kernel_rfl
theorem tk112 : tk Tryd.prog 112 = some ⟨24, 24, List.replicate 24 (.int .u8 0), true, 9, false⟩ := by kernel_rfl
theorem ta112 : tArr Tryd.prog 112 = some (24, 5) := by kernel_rfl
theorem tk113 : tk Tryd.prog 113 = some ⟨1, 8, [.int .u64 0], false, 2, false⟩ := by kernel_rfl
theorem ti113 : tInt Tryd.prog 113 = some .u64 := by kernel_rfl
theorem tk123 : tk Tryd.prog 123 = some ⟨3, 48, [.string ⟨#[]⟩, .string ⟨#[]⟩, .nilIface], true, 6, true⟩ := by kernel_rfl
theorem tf123x0 : tField Tryd.prog 123 0 = some (0, 9) := by kernel_rfl
theorem tf123x1 : tField Tryd.prog 123 1 = some (1, 9) := by kernel_rfl
theorem tf123x2 : tField Tryd.prog 123 2 = some (2, 87) := by kernel_rfl
theorem tk126 : tk Tryd.prog 126 = some ⟨20, 160, List.replicate 20 (.int .u64 0), true, 9, false⟩ := by kernel_rfl
theorem ta126 : tArr Tryd.prog 126 = some (20, 113) := by kernel_rfl
theorem tk127 : tk Tryd.prog 127 = some ⟨1, 4, [.int .u32 0], false, 2, false⟩ := by kernel_rfl
theorem ti127 : tInt Tryd.prog 127 = some .u32 := by kernel_rfl
theorem tk128 : tk Tryd.prog 128 = some ⟨65, 65, List.replicate 65 (.int .u8 0), true, 9, false⟩ := by kernel_rfl
theorem ta128 : tArr Tryd.prog 128 = some (65, 5) := by kernel_rfl
theorem tk134 : tk Tryd.prog 134 = some ⟨1, 8, [.pointer none], false, 4, false⟩ := by kernel_rfl
theorem tk135 : tk Tryd.prog 135 = some ⟨1, 8, [.pointer none], false, 4, false⟩ := by kernel_rfl
theorem tk137 : tk Tryd.prog 137 = some ⟨1, 16, [.string ⟨#[]⟩], true, 6, true⟩ := by kernel_rfl
theorem tf137x0 : tField Tryd.prog 137 0 = some (0, 9) := by kernel_rfl
theorem tk139 : tk Tryd.prog 139 = some ⟨256, 256, List.replicate 256 (.int .u8 0), true, 9, false⟩ := by kernel_rfl
theorem ta139 : tArr Tryd.prog 139 = some (256, 5) := by kernel_rfl
theorem tk141 : tk Tryd.prog 141 = some ⟨2, 2, [.int .u8 0, .int .u8 0], true, 6, true⟩ := by kernel_rfl
theorem tf141x0 : tField Tryd.prog 141 0 = some (0, 5) := by kernel_rfl
theorem tf141x1 : tField Tryd.prog 141 1 = some (1, 5) := by kernel_rfl
theorem tk142 : tk Tryd.prog 142 = some ⟨32, 32, List.replicate 32 (.int .u8 0), true, 9, false⟩ := by kernel_rfl
theorem ta142 : tArr Tryd.prog 142 = some (16, 141) := by kernel_rfl
theorem tk143 : tk Tryd.prog 143 = some ⟨32, 32, List.replicate 32 (.int .u8 0), true, 9, false⟩ := by kernel_rfl
theorem ta143 : tArr Tryd.prog 143 = some (32, 5) := by kernel_rfl
theorem tk144 : tk Tryd.prog 144 = some ⟨64, 64, List.replicate 64 (.int .u8 0), true, 9, false⟩ := by kernel_rfl
theorem ta144 : tArr Tryd.prog 144 = some (64, 5) := by kernel_rfl
theorem TY : tk Tryd.prog 2 = some ⟨1, 8, [.int .i64 0], false, 2, false⟩ ∧
  tInt Tryd.prog 2 = some .i64 ∧
  tk Tryd.prog 3 = some ⟨1, 8, [.int .i64 0], false, 2, false⟩ ∧
  tInt Tryd.prog 3 = some .i64 ∧
  tk Tryd.prog 4 = some ⟨1, 1, [.bool false], false, 1, false⟩ ∧
  tk Tryd.prog 5 = some ⟨1, 1, [.int .u8 0], false, 2, false⟩ ∧
  tInt Tryd.prog 5 = some .u8 ∧
  tk Tryd.prog 9 = some ⟨1, 16, [.string ⟨#[]⟩], false, 3, false⟩ ∧
  tElem Tryd.prog 9 = none ∧
  tk Tryd.prog 21 = some ⟨1, 4, [.int .i32 0], false, 2, false⟩ ∧
  tInt Tryd.prog 21 = some .i32 ∧
  tk Tryd.prog 22 = some ⟨1, 24, [.slice none 0 0], false, 5, false⟩ ∧
  tElem Tryd.prog 22 = some 61 ∧
  tk Tryd.prog 24 = some ⟨5, 104, [.slice none 0 0, .slice none 0 0, .slice none 0 0, .slice none 0 0, .int .i64 0], true, 6, true⟩ ∧
  tField Tryd.prog 24 0 = some (0, 22) ∧
  tField Tryd.prog 24 1 = some (1, 22) ∧
  tField Tryd.prog 24 2 = some (2, 22) ∧
  tField Tryd.prog 24 3 = some (3, 22) ∧
  tField Tryd.prog 24 4 = some (4, 3) ∧
  tk Tryd.prog 28 = some ⟨1, 24, [.slice none 0 0], false, 5, false⟩ ∧
  tElem Tryd.prog 28 = some 66 ∧
  tk Tryd.prog 30 = some ⟨5, 104, [.slice none 0 0, .slice none 0 0, .slice none 0 0, .slice none 0 0, .int .i64 0], true, 6, true⟩ ∧
  tField Tryd.prog 30 0 = some (0, 28) ∧
  tField Tryd.prog 30 1 = some (1, 28) ∧
  tField Tryd.prog 30 2 = some (2, 28) ∧
  tField Tryd.prog 30 3 = some (3, 28) ∧
  tField Tryd.prog 30 4 = some (4, 3) ∧
  tk Tryd.prog 41 = some ⟨1, 24, [.slice none 0 0], false, 5, false⟩ ∧
  tElem Tryd.prog 41 = some 9 ∧
  tk Tryd.prog 51 = some ⟨1, 8, [.pointer none], false, 4, false⟩ ∧
  tk Tryd.prog 59 = some ⟨1, 24, [.slice none 0 0], false, 5, false⟩ ∧
  tElem Tryd.prog 59 = some 3 ∧
  tk Tryd.prog 61 = some ⟨3, 56, [.int .i64 0, .slice none 0 0, .slice none 0 0], true, 6, true⟩ ∧
  tField Tryd.prog 61 0 = some (0, 3) ∧
  tField Tryd.prog 61 1 = some (1, 59) ∧
  tField Tryd.prog 61 2 = some (2, 59) ∧
  tk Tryd.prog 66 = some ⟨3, 56, [.int .i64 0, .slice none 0 0, .slice none 0 0], true, 6, true⟩ ∧
  tField Tryd.prog 66 0 = some (0, 3) ∧
  tField Tryd.prog 66 1 = some (1, 59) ∧
  tField Tryd.prog 66 2 = some (2, 59) ∧
  tk Tryd.prog 69 = some ⟨1, 24, [.slice none 0 0], false, 5, false⟩ ∧
  tElem Tryd.prog 69 = some 28 ∧
  tk Tryd.prog 71 = some ⟨1, 8, [.pointer none], false, 4, false⟩ ∧
  tk Tryd.prog 80 = some ⟨1, 8, [.pointer none], false, 4, false⟩ ∧
  tk Tryd.prog 81 = some ⟨1, 24, [.slice none 0 0], false, 5, false⟩ ∧
  tElem Tryd.prog 81 = some 80 ∧
  tk Tryd.prog 87 = some ⟨1, 16, [.nilIface], false, 7, false⟩ ∧
  tk Tryd.prog 95 = some ⟨1, 24, [.slice none 0 0], false, 5, false⟩ ∧
  tElem Tryd.prog 95 = some 5 ∧
  tk Tryd.prog 105 = some ⟨1, 8, [.int .i64 0], false, 2, false⟩ ∧
  tInt Tryd.prog 105 = some .i64 ∧
  tk Tryd.prog 108 = some ⟨1, 8, [.pointer none], false, 4, false⟩ ∧
  tk Tryd.prog 111 = some ⟨1, 8, [.int .u64 0], false, 2, false⟩ ∧
  tInt Tryd.prog 111 = some .u64 ∧
  tk Tryd.prog 112 = some ⟨24, 24, List.replicate 24 (.int .u8 0), true, 9, false⟩ ∧
  tArr Tryd.prog 112 = some (24, 5) ∧
  tk Tryd.prog 113 = some ⟨1, 8, [.int .u64 0], false, 2, false⟩ ∧
  tInt Tryd.prog 113 = some .u64 ∧
  tk Tryd.prog 123 = some ⟨3, 48, [.string ⟨#[]⟩, .string ⟨#[]⟩, .nilIface], true, 6, true⟩ ∧
  tField Tryd.prog 123 0 = some (0, 9) ∧
  tField Tryd.prog 123 1 = some (1, 9) ∧
  tField Tryd.prog 123 2 = some (2, 87) ∧
  tk Tryd.prog 126 = some ⟨20, 160, List.replicate 20 (.int .u64 0), true, 9, false⟩ ∧
  tArr Tryd.prog 126 = some (20, 113) ∧
  tk Tryd.prog 127 = some ⟨1, 4, [.int .u32 0], false, 2, false⟩ ∧
  tInt Tryd.prog 127 = some .u32 ∧
  tk Tryd.prog 128 = some ⟨65, 65, List.replicate 65 (.int .u8 0), true, 9, false⟩ ∧
  tArr Tryd.prog 128 = some (65, 5) ∧
  tk Tryd.prog 134 = some ⟨1, 8, [.pointer none], false, 4, false⟩ ∧
  tk Tryd.prog 135 = some ⟨1, 8, [.pointer none], false, 4, false⟩ ∧
  tk Tryd.prog 137 = some ⟨1, 16, [.string ⟨#[]⟩], true, 6, true⟩ ∧
  tField Tryd.prog 137 0 = some (0, 9) ∧
  tk Tryd.prog 139 = some ⟨256, 256, List.replicate 256 (.int .u8 0), true, 9, false⟩ ∧
  tArr Tryd.prog 139 = some (256, 5) ∧
  tk Tryd.prog 141 = some ⟨2, 2, [.int .u8 0, .int .u8 0], true, 6, true⟩ ∧
  tField Tryd.prog 141 0 = some (0, 5) ∧
  tField Tryd.prog 141 1 = some (1, 5) ∧
  tk Tryd.prog 142 = some ⟨32, 32, List.replicate 32 (.int .u8 0), true, 9, false⟩ ∧
  tArr Tryd.prog 142 = some (16, 141) ∧
  tk Tryd.prog 143 = some ⟨32, 32, List.replicate 32 (.int .u8 0), true, 9, false⟩ ∧
  tArr Tryd.prog 143 = some (32, 5) ∧
  tk Tryd.prog 144 = some ⟨64, 64, List.replicate 64 (.int .u8 0), true, 9, false⟩ ∧
  tArr Tryd.prog 144 = some (64, 5) := And.intro tk2 (And.intro ti2 (And.intro tk3 (And.intro ti3 (And.intro tk4 (And.intro tk5 (And.intro ti5 (And.intro tk9 (And.intro te9 (And.intro tk21 (And.intro ti21 (And.intro tk22 (And.intro te22 (And.intro tk24 (And.intro tf24x0 (And.intro tf24x1 (And.intro tf24x2 (And.intro tf24x3 (And.intro tf24x4 (And.intro tk28 (And.intro te28 (And.intro tk30 (And.intro tf30x0 (And.intro tf30x1 (And.intro tf30x2 (And.intro tf30x3 (And.intro tf30x4 (And.intro tk41 (And.intro te41 (And.intro tk51 (And.intro tk59 (And.intro te59 (And.intro tk61 (And.intro tf61x0 (And.intro tf61x1 (And.intro tf61x2 (And.intro tk66 (And.intro tf66x0 (And.intro tf66x1 (And.intro tf66x2 (And.intro tk69 (And.intro te69 (And.intro tk71 (And.intro tk80 (And.intro tk81 (And.intro te81 (And.intro tk87 (And.intro tk95 (And.intro te95 (And.intro tk105 (And.intro ti105 (And.intro tk108 (And.intro tk111 (And.intro ti111 (And.intro tk112 (And.intro ta112 (And.intro tk113 (And.intro ti113 (And.intro tk123 (And.intro tf123x0 (And.intro tf123x1 (And.intro tf123x2 (And.intro tk126 (And.intro ta126 (And.intro tk127 (And.intro ti127 (And.intro tk128 (And.intro ta128 (And.intro tk134 (And.intro tk135 (And.intro tk137 (And.intro tf137x0 (And.intro tk139 (And.intro ta139 (And.intro tk141 (And.intro tf141x0 (And.intro tf141x1 (And.intro tk142 (And.intro ta142 (And.intro tk143 (And.intro ta143 (And.intro tk144 (ta144))))))))))))))))))))))))))))))))))))))))))))))))))))))))))))))))))))))))))))))))))
theorem HB : hasBody Tryd.prog 3 = true ∧
  hasBody Tryd.prog 4 = true ∧
  hasBody Tryd.prog 5 = true ∧
  hasBody Tryd.prog 6 = true ∧
  hasBody Tryd.prog 7 = true ∧
  hasBody Tryd.prog 8 = true ∧
  hasBody Tryd.prog 9 = true ∧
  hasBody Tryd.prog 10 = true ∧
  hasBody Tryd.prog 11 = true ∧
  hasBody Tryd.prog 12 = true ∧
  hasBody Tryd.prog 13 = true ∧
  hasBody Tryd.prog 14 = true ∧
  hasBody Tryd.prog 15 = true ∧
  hasBody Tryd.prog 16 = true ∧
  hasBody Tryd.prog 17 = true ∧
  hasBody Tryd.prog 18 = true ∧
  hasBody Tryd.prog 19 = true ∧
  hasBody Tryd.prog 20 = true ∧
  hasBody Tryd.prog 21 = true ∧
  hasBody Tryd.prog 22 = true ∧
  hasBody Tryd.prog 23 = true ∧
  hasBody Tryd.prog 24 = true ∧
  hasBody Tryd.prog 25 = true ∧
  hasBody Tryd.prog 26 = true ∧
  hasBody Tryd.prog 27 = true ∧
  hasBody Tryd.prog 28 = true ∧
  hasBody Tryd.prog 29 = true ∧
  hasBody Tryd.prog 30 = true ∧
  hasBody Tryd.prog 31 = true ∧
  hasBody Tryd.prog 32 = true ∧
  hasBody Tryd.prog 33 = true ∧
  hasBody Tryd.prog 34 = true ∧
  hasBody Tryd.prog 35 = true ∧
  hasBody Tryd.prog 36 = true ∧
  hasBody Tryd.prog 37 = true ∧
  hasBody Tryd.prog 38 = true ∧
  hasBody Tryd.prog 39 = true ∧
  hasBody Tryd.prog 40 = true ∧
  hasBody Tryd.prog 41 = true ∧
  hasBody Tryd.prog 42 = true ∧
  hasBody Tryd.prog 43 = true ∧
  hasBody Tryd.prog 44 = true ∧
  hasBody Tryd.prog 45 = true ∧
  hasBody Tryd.prog 46 = true ∧
  hasBody Tryd.prog 47 = true ∧
  hasBody Tryd.prog 48 = true ∧
  hasBody Tryd.prog 49 = true ∧
  hasBody Tryd.prog 50 = true ∧
  hasBody Tryd.prog 51 = true ∧
  hasBody Tryd.prog 52 = true ∧
  hasBody Tryd.prog 53 = true ∧
  hasBody Tryd.prog 54 = true ∧
  hasBody Tryd.prog 55 = true ∧
  hasBody Tryd.prog 56 = true ∧
  hasBody Tryd.prog 57 = true ∧
  hasBody Tryd.prog 58 = true ∧
  hasBody Tryd.prog 59 = true ∧
  hasBody Tryd.prog 60 = true ∧
  hasBody Tryd.prog 61 = true ∧
  hasBody Tryd.prog 62 = true ∧
  hasBody Tryd.prog 63 = true ∧
  hasBody Tryd.prog 64 = true ∧
  hasBody Tryd.prog 65 = true ∧
  hasBody Tryd.prog 66 = true ∧
  hasBody Tryd.prog 67 = true ∧
  hasBody Tryd.prog 68 = true ∧
  hasBody Tryd.prog 69 = true ∧
  hasBody Tryd.prog 70 = true ∧
  hasBody Tryd.prog 71 = true ∧
  hasBody Tryd.prog 72 = true ∧
  hasBody Tryd.prog 73 = true ∧
  hasBody Tryd.prog 74 = true ∧
  hasBody Tryd.prog 75 = true ∧
  hasBody Tryd.prog 76 = true ∧
  hasBody Tryd.prog 77 = true ∧
  hasBody Tryd.prog 78 = true ∧
  hasBody Tryd.prog 79 = true ∧
  hasBody Tryd.prog 80 = true ∧
  hasBody Tryd.prog 81 = true ∧
  hasBody Tryd.prog 82 = true ∧
  hasBody Tryd.prog 83 = true ∧
  hasBody Tryd.prog 84 = true ∧
  hasBody Tryd.prog 85 = true ∧
  hasBody Tryd.prog 86 = true ∧
  hasBody Tryd.prog 87 = true ∧
  hasBody Tryd.prog 88 = true ∧
  hasBody Tryd.prog 89 = true ∧
  hasBody Tryd.prog 90 = true ∧
  hasBody Tryd.prog 91 = true ∧
  hasBody Tryd.prog 92 = true ∧
  hasBody Tryd.prog 93 = true ∧
  hasBody Tryd.prog 94 = true ∧
  hasBody Tryd.prog 95 = true ∧
  hasBody Tryd.prog 96 = true ∧
  hasBody Tryd.prog 97 = true ∧
  hasBody Tryd.prog 98 = true ∧
  hasBody Tryd.prog 99 = true ∧
  hasBody Tryd.prog 100 = true ∧
  hasBody Tryd.prog 101 = true ∧
  hasBody Tryd.prog 102 = true ∧
  hasBody Tryd.prog 103 = true ∧
  hasBody Tryd.prog 104 = true ∧
  hasBody Tryd.prog 105 = true ∧
  hasBody Tryd.prog 106 = true ∧
  hasBody Tryd.prog 107 = true ∧
  hasBody Tryd.prog 109 = true ∧
  hasBody Tryd.prog 111 = true ∧
  hasBody Tryd.prog 112 = true ∧
  hasBody Tryd.prog 113 = true ∧
  hasBody Tryd.prog 114 = true ∧
  hasBody Tryd.prog 115 = true ∧
  hasBody Tryd.prog 116 = true ∧
  hasBody Tryd.prog 117 = true ∧
  hasBody Tryd.prog 118 = true ∧
  hasBody Tryd.prog 119 = true ∧
  hasBody Tryd.prog 120 = true ∧
  hasBody Tryd.prog 121 = true ∧
  hasBody Tryd.prog 123 = true ∧
  hasBody Tryd.prog 124 = true ∧
  hasBody Tryd.prog 125 = true ∧
  hasBody Tryd.prog 126 = true ∧
  hasBody Tryd.prog 127 = true := by
  repeat' apply And.intro
  all_goals kernel_rfl
end Go.Proofs
