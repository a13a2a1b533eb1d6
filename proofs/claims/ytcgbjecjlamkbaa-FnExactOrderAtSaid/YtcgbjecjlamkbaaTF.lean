/- Contracts of functions, facts of types, or the plain law behind one statement (own work): TF. Conditions: those told in each theorem. -/
import Derived.Test.YtcgbjecjlamkbaaVB
import Derived.Test.YtcgbjecjlamkbaaProg
import Derived.KernelRfl
set_option linter.all false
namespace Go.Proofs
open Go Go.V
instance : Laid Try.prog := ⟨fun _ => True⟩
theorem tk2 : tk Try.prog 2 = some ⟨1, 8, [.int .i64 0], false, 2, false⟩ := by kernel_rfl
theorem ti2 : tInt Try.prog 2 = some .i64 := by kernel_rfl
theorem tk3 : tk Try.prog 3 = some ⟨1, 8, [.int .i64 0], false, 2, false⟩ := by kernel_rfl
theorem ti3 : tInt Try.prog 3 = some .i64 := by kernel_rfl
theorem tk4 : tk Try.prog 4 = some ⟨1, 1, [.bool false], false, 1, false⟩ := by kernel_rfl
theorem tk22 : tk Try.prog 22 = some ⟨1, 24, [.slice none 0 0], false, 5, false⟩ := by kernel_rfl
theorem te22 : tElem Try.prog 22 = some 3 := by kernel_rfl
theorem tk24 : tk Try.prog 24 = some ⟨2, 16, [.int .i64 0, .int .i64 0], true, 6, true⟩ := by kernel_rfl
theorem tf24x0 : tField Try.prog 24 0 = some (0, 3) := by kernel_rfl
theorem tf24x1 : tField Try.prog 24 1 = some (1, 3) := by kernel_rfl
theorem tk28 : tk Try.prog 28 = some ⟨2, 16, [.int .i64 0, .int .i64 0], true, 6, true⟩ := by kernel_rfl
theorem tf28x0 : tField Try.prog 28 0 = some (0, 3) := by kernel_rfl
theorem tf28x1 : tField Try.prog 28 1 = some (1, 3) := by kernel_rfl
theorem tk44 : tk Try.prog 44 = some ⟨1, 24, [.slice none 0 0], false, 5, false⟩ := by kernel_rfl
theorem te44 : tElem Try.prog 44 = some 55 := by kernel_rfl
theorem tk46 : tk Try.prog 46 = some ⟨2, 32, [.bool false, .slice none 0 0], true, 6, true⟩ := by kernel_rfl
theorem tf46x0 : tField Try.prog 46 0 = some (0, 4) := by kernel_rfl
theorem tf46x1 : tField Try.prog 46 1 = some (1, 44) := by kernel_rfl
theorem tk51 : tk Try.prog 51 = some ⟨1, 8, [.int .u64 0], false, 2, false⟩ := by kernel_rfl
theorem ti51 : tInt Try.prog 51 = some .u64 := by kernel_rfl
theorem tk54 : tk Try.prog 54 = some ⟨1, 8, [.int .u64 0], false, 2, false⟩ := by kernel_rfl
theorem ti54 : tInt Try.prog 54 = some .u64 := by kernel_rfl
theorem tk55 : tk Try.prog 55 = some ⟨1, 4, [.int .u32 0], false, 2, false⟩ := by kernel_rfl
theorem ti55 : tInt Try.prog 55 = some .u32 := by kernel_rfl
theorem tk60 : tk Try.prog 60 = some ⟨1, 8, [.nilFunc], false, 8, false⟩ := by kernel_rfl
theorem TY : tk Try.prog 2 = some ⟨1, 8, [.int .i64 0], false, 2, false⟩ ∧
  tInt Try.prog 2 = some .i64 ∧
  tk Try.prog 3 = some ⟨1, 8, [.int .i64 0], false, 2, false⟩ ∧
  tInt Try.prog 3 = some .i64 ∧
  tk Try.prog 4 = some ⟨1, 1, [.bool false], false, 1, false⟩ ∧
  tk Try.prog 22 = some ⟨1, 24, [.slice none 0 0], false, 5, false⟩ ∧
  tElem Try.prog 22 = some 3 ∧
  tk Try.prog 24 = some ⟨2, 16, [.int .i64 0, .int .i64 0], true, 6, true⟩ ∧
  tField Try.prog 24 0 = some (0, 3) ∧
  tField Try.prog 24 1 = some (1, 3) ∧
  tk Try.prog 28 = some ⟨2, 16, [.int .i64 0, .int .i64 0], true, 6, true⟩ ∧
  tField Try.prog 28 0 = some (0, 3) ∧
  tField Try.prog 28 1 = some (1, 3) ∧
  tk Try.prog 44 = some ⟨1, 24, [.slice none 0 0], false, 5, false⟩ ∧
  tElem Try.prog 44 = some 55 ∧
  tk Try.prog 46 = some ⟨2, 32, [.bool false, .slice none 0 0], true, 6, true⟩ ∧
  tField Try.prog 46 0 = some (0, 4) ∧
  tField Try.prog 46 1 = some (1, 44) ∧
  tk Try.prog 51 = some ⟨1, 8, [.int .u64 0], false, 2, false⟩ ∧
  tInt Try.prog 51 = some .u64 ∧
  tk Try.prog 54 = some ⟨1, 8, [.int .u64 0], false, 2, false⟩ ∧
  tInt Try.prog 54 = some .u64 ∧
  tk Try.prog 55 = some ⟨1, 4, [.int .u32 0], false, 2, false⟩ ∧
  tInt Try.prog 55 = some .u32 ∧
  tk Try.prog 60 = some ⟨1, 8, [.nilFunc], false, 8, false⟩ := And.intro tk2 (And.intro ti2 (And.intro tk3 (And.intro ti3 (And.intro tk4 (And.intro tk22 (And.intro te22 (And.intro tk24 (And.intro tf24x0 (And.intro tf24x1 (And.intro tk28 (And.intro tf28x0 (And.intro tf28x1 (And.intro tk44 (And.intro te44 (And.intro tk46 (And.intro tf46x0 (And.intro tf46x1 (And.intro tk51 (And.intro ti51 (And.intro tk54 (And.intro ti54 (And.intro tk55 (And.intro ti55 (tk60))))))))))))))))))))))))
theorem HB : hasBody Try.prog 3 = true ∧
  hasBody Try.prog 4 = true ∧
  hasBody Try.prog 5 = true ∧
  hasBody Try.prog 6 = true ∧
  hasBody Try.prog 7 = true ∧
  hasBody Try.prog 8 = true ∧
  hasBody Try.prog 9 = true ∧
  hasBody Try.prog 10 = true ∧
  hasBody Try.prog 11 = true ∧
  hasBody Try.prog 12 = true ∧
  hasBody Try.prog 13 = true ∧
  hasBody Try.prog 14 = true ∧
  hasBody Try.prog 15 = true ∧
  hasBody Try.prog 16 = true ∧
  hasBody Try.prog 17 = true ∧
  hasBody Try.prog 18 = true ∧
  hasBody Try.prog 19 = true ∧
  hasBody Try.prog 20 = true ∧
  hasBody Try.prog 21 = true ∧
  hasBody Try.prog 22 = true ∧
  hasBody Try.prog 23 = true ∧
  hasBody Try.prog 24 = true ∧
  hasBody Try.prog 25 = true ∧
  hasBody Try.prog 26 = true ∧
  hasBody Try.prog 27 = true ∧
  hasBody Try.prog 28 = true ∧
  hasBody Try.prog 29 = true ∧
  hasBody Try.prog 30 = true ∧
  hasBody Try.prog 31 = true ∧
  hasBody Try.prog 32 = true ∧
  hasBody Try.prog 33 = true ∧
  hasBody Try.prog 34 = true ∧
  hasBody Try.prog 35 = true ∧
  hasBody Try.prog 36 = true ∧
  hasBody Try.prog 37 = true ∧
  hasBody Try.prog 38 = true ∧
  hasBody Try.prog 39 = true ∧
  hasBody Try.prog 40 = true ∧
  hasBody Try.prog 41 = true ∧
  hasBody Try.prog 42 = true ∧
  hasBody Try.prog 43 = true ∧
  hasBody Try.prog 44 = true ∧
  hasBody Try.prog 45 = true ∧
  hasBody Try.prog 46 = true ∧
  hasBody Try.prog 47 = true ∧
  hasBody Try.prog 48 = true ∧
  hasBody Try.prog 49 = true ∧
  hasBody Try.prog 50 = true ∧
  hasBody Try.prog 51 = true ∧
  hasBody Try.prog 52 = true ∧
  hasBody Try.prog 53 = true ∧
  hasBody Try.prog 54 = true ∧
  hasBody Try.prog 55 = true ∧
  hasBody Try.prog 56 = true ∧
  hasBody Try.prog 57 = true := by
  repeat' apply And.intro
  all_goals kernel_rfl
end Go.Proofs
