/- Contracts of functions, facts of types, or the plain law behind one statement (own work): TF. Conditions: those told in each theorem. -/
import Derived.Test.YtcmkfkgcbllijaaV28
import Derived.Test.YtcmkfkgcbllijaaProg
import Derived.KernelRfl
set_option linter.all false
namespace Go.Proofs
open Go Go.V
instance : Laid Try.prog := ⟨fun _ => True⟩
theorem tk3 : tk Try.prog 3 = some ⟨1, 8, [.int .i64 0], false, 2, false⟩ := by kernel_rfl
theorem ti3 : tInt Try.prog 3 = some .i64 := by kernel_rfl
theorem tk4 : tk Try.prog 4 = some ⟨1, 1, [.bool false], false, 1, false⟩ := by kernel_rfl
theorem tk9 : tk Try.prog 9 = some ⟨1, 16, [.string ⟨#[]⟩], false, 3, false⟩ := by kernel_rfl
theorem te9 : tElem Try.prog 9 = none := by kernel_rfl
theorem tk22 : tk Try.prog 22 = some ⟨1, 24, [.slice none 0 0], false, 5, false⟩ := by kernel_rfl
theorem te22 : tElem Try.prog 22 = some 63 := by kernel_rfl
theorem tk25 : tk Try.prog 25 = some ⟨1, 24, [.slice none 0 0], false, 5, false⟩ := by kernel_rfl
theorem te25 : tElem Try.prog 25 = some 61 := by kernel_rfl
theorem tk36 : tk Try.prog 36 = some ⟨1, 24, [.slice none 0 0], false, 5, false⟩ := by kernel_rfl
theorem te36 : tElem Try.prog 36 = some 49 := by kernel_rfl
theorem tk38 : tk Try.prog 38 = some ⟨5, 104, [.slice none 0 0, .slice none 0 0, .slice none 0 0, .slice none 0 0, .int .i64 0], true, 6, true⟩ := by kernel_rfl
theorem tf38x0 : tField Try.prog 38 0 = some (0, 36) := by kernel_rfl
theorem tf38x1 : tField Try.prog 38 1 = some (1, 36) := by kernel_rfl
theorem tf38x2 : tField Try.prog 38 2 = some (2, 36) := by kernel_rfl
theorem tf38x3 : tField Try.prog 38 3 = some (3, 36) := by kernel_rfl
theorem tf38x4 : tField Try.prog 38 4 = some (4, 3) := by kernel_rfl
theorem tk41 : tk Try.prog 41 = some ⟨1, 24, [.slice none 0 0], false, 5, false⟩ := by kernel_rfl
theorem te41 : tElem Try.prog 41 = some 53 := by kernel_rfl
theorem tk43 : tk Try.prog 43 = some ⟨5, 104, [.slice none 0 0, .slice none 0 0, .slice none 0 0, .slice none 0 0, .int .i64 0], true, 6, true⟩ := by kernel_rfl
theorem tf43x0 : tField Try.prog 43 0 = some (0, 41) := by kernel_rfl
theorem tf43x1 : tField Try.prog 43 1 = some (1, 41) := by kernel_rfl
theorem tf43x2 : tField Try.prog 43 2 = some (2, 41) := by kernel_rfl
theorem tf43x3 : tField Try.prog 43 3 = some (3, 41) := by kernel_rfl
theorem tf43x4 : tField Try.prog 43 4 = some (4, 3) := by kernel_rfl
theorem tk47 : tk Try.prog 47 = some ⟨1, 24, [.slice none 0 0], false, 5, false⟩ := by kernel_rfl
theorem te47 : tElem Try.prog 47 = some 3 := by kernel_rfl
theorem tk49 : tk Try.prog 49 = some ⟨3, 56, [.int .i64 0, .slice none 0 0, .slice none 0 0], true, 6, true⟩ := by kernel_rfl
theorem tf49x0 : tField Try.prog 49 0 = some (0, 3) := by kernel_rfl
theorem tf49x1 : tField Try.prog 49 1 = some (1, 47) := by kernel_rfl
theorem tf49x2 : tField Try.prog 49 2 = some (2, 47) := by kernel_rfl
theorem tk53 : tk Try.prog 53 = some ⟨3, 56, [.int .i64 0, .slice none 0 0, .slice none 0 0], true, 6, true⟩ := by kernel_rfl
theorem tf53x0 : tField Try.prog 53 0 = some (0, 3) := by kernel_rfl
theorem tf53x1 : tField Try.prog 53 1 = some (1, 47) := by kernel_rfl
theorem tf53x2 : tField Try.prog 53 2 = some (2, 47) := by kernel_rfl
theorem tk61 : tk Try.prog 61 = some ⟨2, 16, [.int .i64 0, .int .i64 0], true, 6, true⟩ := by kernel_rfl
theorem tf61x0 : tField Try.prog 61 0 = some (0, 3) := by kernel_rfl
theorem tf61x1 : tField Try.prog 61 1 = some (1, 3) := by kernel_rfl
theorem tk63 : tk Try.prog 63 = some ⟨2, 16, [.int .i64 0, .int .i64 0], true, 6, true⟩ := by kernel_rfl
theorem tf63x0 : tField Try.prog 63 0 = some (0, 3) := by kernel_rfl
theorem tf63x1 : tField Try.prog 63 1 = some (1, 3) := by kernel_rfl
theorem tk66 : tk Try.prog 66 = some ⟨1, 24, [.slice none 0 0], false, 5, false⟩ := by kernel_rfl
theorem te66 : tElem Try.prog 66 = some 9 := by kernel_rfl
theorem tk75 : tk Try.prog 75 = some ⟨1, 8, [.pointer none], false, 4, false⟩ := by kernel_rfl
theorem tk82 : tk Try.prog 82 = some ⟨1, 8, [.pointer none], false, 4, false⟩ := by kernel_rfl
theorem tk89 : tk Try.prog 89 = some ⟨1, 24, [.slice none 0 0], false, 5, false⟩ := by kernel_rfl
theorem te89 : tElem Try.prog 89 = some 41 := by kernel_rfl
theorem tk93 : tk Try.prog 93 = some ⟨1, 8, [.int .u64 0], false, 2, false⟩ := by kernel_rfl
theorem ti93 : tInt Try.prog 93 = some .u64 := by kernel_rfl
theorem TY : tk Try.prog 3 = some ⟨1, 8, [.int .i64 0], false, 2, false⟩ ∧
  tInt Try.prog 3 = some .i64 ∧
  tk Try.prog 4 = some ⟨1, 1, [.bool false], false, 1, false⟩ ∧
  tk Try.prog 9 = some ⟨1, 16, [.string ⟨#[]⟩], false, 3, false⟩ ∧
  tElem Try.prog 9 = none ∧
  tk Try.prog 22 = some ⟨1, 24, [.slice none 0 0], false, 5, false⟩ ∧
  tElem Try.prog 22 = some 63 ∧
  tk Try.prog 25 = some ⟨1, 24, [.slice none 0 0], false, 5, false⟩ ∧
  tElem Try.prog 25 = some 61 ∧
  tk Try.prog 36 = some ⟨1, 24, [.slice none 0 0], false, 5, false⟩ ∧
  tElem Try.prog 36 = some 49 ∧
  tk Try.prog 38 = some ⟨5, 104, [.slice none 0 0, .slice none 0 0, .slice none 0 0, .slice none 0 0, .int .i64 0], true, 6, true⟩ ∧
  tField Try.prog 38 0 = some (0, 36) ∧
  tField Try.prog 38 1 = some (1, 36) ∧
  tField Try.prog 38 2 = some (2, 36) ∧
  tField Try.prog 38 3 = some (3, 36) ∧
  tField Try.prog 38 4 = some (4, 3) ∧
  tk Try.prog 41 = some ⟨1, 24, [.slice none 0 0], false, 5, false⟩ ∧
  tElem Try.prog 41 = some 53 ∧
  tk Try.prog 43 = some ⟨5, 104, [.slice none 0 0, .slice none 0 0, .slice none 0 0, .slice none 0 0, .int .i64 0], true, 6, true⟩ ∧
  tField Try.prog 43 0 = some (0, 41) ∧
  tField Try.prog 43 1 = some (1, 41) ∧
  tField Try.prog 43 2 = some (2, 41) ∧
  tField Try.prog 43 3 = some (3, 41) ∧
  tField Try.prog 43 4 = some (4, 3) ∧
  tk Try.prog 47 = some ⟨1, 24, [.slice none 0 0], false, 5, false⟩ ∧
  tElem Try.prog 47 = some 3 ∧
  tk Try.prog 49 = some ⟨3, 56, [.int .i64 0, .slice none 0 0, .slice none 0 0], true, 6, true⟩ ∧
  tField Try.prog 49 0 = some (0, 3) ∧
  tField Try.prog 49 1 = some (1, 47) ∧
  tField Try.prog 49 2 = some (2, 47) ∧
  tk Try.prog 53 = some ⟨3, 56, [.int .i64 0, .slice none 0 0, .slice none 0 0], true, 6, true⟩ ∧
  tField Try.prog 53 0 = some (0, 3) ∧
  tField Try.prog 53 1 = some (1, 47) ∧
  tField Try.prog 53 2 = some (2, 47) ∧
  tk Try.prog 61 = some ⟨2, 16, [.int .i64 0, .int .i64 0], true, 6, true⟩ ∧
  tField Try.prog 61 0 = some (0, 3) ∧
  tField Try.prog 61 1 = some (1, 3) ∧
  tk Try.prog 63 = some ⟨2, 16, [.int .i64 0, .int .i64 0], true, 6, true⟩ ∧
  tField Try.prog 63 0 = some (0, 3) ∧
  tField Try.prog 63 1 = some (1, 3) ∧
  tk Try.prog 66 = some ⟨1, 24, [.slice none 0 0], false, 5, false⟩ ∧
  tElem Try.prog 66 = some 9 ∧
  tk Try.prog 75 = some ⟨1, 8, [.pointer none], false, 4, false⟩ ∧
  tk Try.prog 82 = some ⟨1, 8, [.pointer none], false, 4, false⟩ ∧
  tk Try.prog 89 = some ⟨1, 24, [.slice none 0 0], false, 5, false⟩ ∧
  tElem Try.prog 89 = some 41 ∧
  tk Try.prog 93 = some ⟨1, 8, [.int .u64 0], false, 2, false⟩ ∧
  tInt Try.prog 93 = some .u64 := And.intro tk3 (And.intro ti3 (And.intro tk4 (And.intro tk9 (And.intro te9 (And.intro tk22 (And.intro te22 (And.intro tk25 (And.intro te25 (And.intro tk36 (And.intro te36 (And.intro tk38 (And.intro tf38x0 (And.intro tf38x1 (And.intro tf38x2 (And.intro tf38x3 (And.intro tf38x4 (And.intro tk41 (And.intro te41 (And.intro tk43 (And.intro tf43x0 (And.intro tf43x1 (And.intro tf43x2 (And.intro tf43x3 (And.intro tf43x4 (And.intro tk47 (And.intro te47 (And.intro tk49 (And.intro tf49x0 (And.intro tf49x1 (And.intro tf49x2 (And.intro tk53 (And.intro tf53x0 (And.intro tf53x1 (And.intro tf53x2 (And.intro tk61 (And.intro tf61x0 (And.intro tf61x1 (And.intro tk63 (And.intro tf63x0 (And.intro tf63x1 (And.intro tk66 (And.intro te66 (And.intro tk75 (And.intro tk82 (And.intro tk89 (And.intro te89 (And.intro tk93 (ti93))))))))))))))))))))))))))))))))))))))))))))))))
theorem HB : hasBody Try.prog 3 = true ∧
  hasBody Try.prog 4 = true ∧
  hasBody Try.prog 5 = true ∧
  hasBody Try.prog 6 = true ∧
  hasBody Try.prog 7 = true ∧
  hasBody Try.prog 8 = true ∧
  hasBody Try.prog 9 = true ∧
  hasBody Try.prog 10 = true ∧
  hasBody Try.prog 11 = true ∧
  hasBody Try.prog 12 = true ∧
  hasBody Try.prog 13 = true ∧
  hasBody Try.prog 14 = true ∧
  hasBody Try.prog 15 = true ∧
  hasBody Try.prog 16 = true ∧
  hasBody Try.prog 17 = true ∧
  hasBody Try.prog 18 = true ∧
  hasBody Try.prog 19 = true ∧
  hasBody Try.prog 20 = true ∧
  hasBody Try.prog 21 = true ∧
  hasBody Try.prog 22 = true ∧
  hasBody Try.prog 23 = true ∧
  hasBody Try.prog 24 = true ∧
  hasBody Try.prog 25 = true ∧
  hasBody Try.prog 26 = true ∧
  hasBody Try.prog 27 = true ∧
  hasBody Try.prog 28 = true ∧
  hasBody Try.prog 29 = true ∧
  hasBody Try.prog 30 = true ∧
  hasBody Try.prog 31 = true ∧
  hasBody Try.prog 32 = true ∧
  hasBody Try.prog 33 = true ∧
  hasBody Try.prog 34 = true ∧
  hasBody Try.prog 35 = true ∧
  hasBody Try.prog 36 = true ∧
  hasBody Try.prog 37 = true ∧
  hasBody Try.prog 38 = true ∧
  hasBody Try.prog 39 = true ∧
  hasBody Try.prog 40 = true ∧
  hasBody Try.prog 41 = true ∧
  hasBody Try.prog 42 = true ∧
  hasBody Try.prog 43 = true ∧
  hasBody Try.prog 44 = true ∧
  hasBody Try.prog 45 = true ∧
  hasBody Try.prog 46 = true ∧
  hasBody Try.prog 47 = true ∧
  hasBody Try.prog 48 = true ∧
  hasBody Try.prog 49 = true ∧
  hasBody Try.prog 50 = true ∧
  hasBody Try.prog 51 = true ∧
  hasBody Try.prog 52 = true ∧
  hasBody Try.prog 53 = true ∧
  hasBody Try.prog 54 = true ∧
  hasBody Try.prog 55 = true ∧
  hasBody Try.prog 56 = true ∧
  hasBody Try.prog 57 = true ∧
  hasBody Try.prog 58 = true ∧
  hasBody Try.prog 59 = true ∧
  hasBody Try.prog 60 = true ∧
  hasBody Try.prog 61 = true ∧
  hasBody Try.prog 62 = true ∧
  hasBody Try.prog 63 = true ∧
  hasBody Try.prog 64 = true ∧
  hasBody Try.prog 65 = true ∧
  hasBody Try.prog 66 = true ∧
  hasBody Try.prog 67 = true ∧
  hasBody Try.prog 68 = true ∧
  hasBody Try.prog 69 = true ∧
  hasBody Try.prog 70 = true ∧
  hasBody Try.prog 71 = true ∧
  hasBody Try.prog 72 = true ∧
  hasBody Try.prog 73 = true ∧
  hasBody Try.prog 74 = true ∧
  hasBody Try.prog 75 = true ∧
  hasBody Try.prog 76 = true := by
  repeat' apply And.intro
  all_goals kernel_rfl
end Go.Proofs
