/- Contracts of functions, facts of types, or the plain law behind one statement (own work): TF. Conditions: those told in each theorem. -/
import Derived.Test.YtheliocfcjkbhaaV28
import Derived.Test.YtheliocfcjkbhaaProg
import Derived.KernelRfl
set_option linter.all false
namespace Go.Proofs
open Go Go.V
instance : Laid Try.prog := ⟨fun _ => True⟩
theorem tk2 : tk Try.prog 2 = some ⟨1, 8, [.int .i64 0], false, 2, false⟩ := by kernel_rfl
theorem ti2 : tInt Try.prog 2 = some .i64 := by kernel_rfl
theorem tk3 : tk Try.prog 3 = some ⟨1, 8, [.int .i64 0], false, 2, false⟩ := by kernel_rfl
theorem ti3 : tInt Try.prog 3 = some .i64 := by kernel_rfl
theorem tk4 : tk Try.prog 4 = some ⟨1, 1, [.bool false], false, 1, false⟩ := by kernel_rfl
theorem tk9 : tk Try.prog 9 = some ⟨1, 16, [.string ⟨#[]⟩], false, 3, false⟩ := by kernel_rfl
theorem te9 : tElem Try.prog 9 = none := by kernel_rfl
theorem tk22 : tk Try.prog 22 = some ⟨1, 24, [.slice none 0 0], false, 5, false⟩ := by kernel_rfl
theorem te22 : tElem Try.prog 22 = some 3 := by kernel_rfl
theorem tk24 : tk Try.prog 24 = some ⟨2, 16, [.int .i64 0, .int .i64 0], true, 6, true⟩ := by kernel_rfl
theorem tf24x0 : tField Try.prog 24 0 = some (0, 3) := by kernel_rfl
theorem tf24x1 : tField Try.prog 24 1 = some (1, 3) := by kernel_rfl
theorem tk28 : tk Try.prog 28 = some ⟨2, 16, [.int .i64 0, .int .i64 0], true, 6, true⟩ := by kernel_rfl
theorem tf28x0 : tField Try.prog 28 0 = some (0, 3) := by kernel_rfl
theorem tf28x1 : tField Try.prog 28 1 = some (1, 3) := by kernel_rfl
theorem tk34 : tk Try.prog 34 = some ⟨1, 24, [.slice none 0 0], false, 5, false⟩ := by kernel_rfl
theorem te34 : tElem Try.prog 34 = some 71 := by kernel_rfl
theorem tk36 : tk Try.prog 36 = some ⟨5, 104, [.slice none 0 0, .slice none 0 0, .slice none 0 0, .slice none 0 0, .int .i64 0], true, 6, true⟩ := by kernel_rfl
theorem tf36x0 : tField Try.prog 36 0 = some (0, 34) := by kernel_rfl
theorem tf36x1 : tField Try.prog 36 1 = some (1, 34) := by kernel_rfl
theorem tf36x2 : tField Try.prog 36 2 = some (2, 34) := by kernel_rfl
theorem tf36x3 : tField Try.prog 36 3 = some (3, 34) := by kernel_rfl
theorem tf36x4 : tField Try.prog 36 4 = some (4, 3) := by kernel_rfl
theorem tk37 : tk Try.prog 37 = some ⟨1, 24, [.slice none 0 0], false, 5, false⟩ := by kernel_rfl
theorem te37 : tElem Try.prog 37 = some 137 := by kernel_rfl
theorem tk39 : tk Try.prog 39 = some ⟨6, 128, [.slice none 0 0, .slice none 0 0, .slice none 0 0, .slice none 0 0, .int .i64 0, .slice none 0 0], true, 6, true⟩ := by kernel_rfl
theorem tf39x0 : tField Try.prog 39 0 = some (0, 36) := by kernel_rfl
theorem tf39x1 : tField Try.prog 39 1 = some (5, 37) := by kernel_rfl
theorem tk42 : tk Try.prog 42 = some ⟨1, 24, [.slice none 0 0], false, 5, false⟩ := by kernel_rfl
theorem te42 : tElem Try.prog 42 = some 75 := by kernel_rfl
theorem tk44 : tk Try.prog 44 = some ⟨5, 104, [.slice none 0 0, .slice none 0 0, .slice none 0 0, .slice none 0 0, .int .i64 0], true, 6, true⟩ := by kernel_rfl
theorem tf44x0 : tField Try.prog 44 0 = some (0, 42) := by kernel_rfl
theorem tf44x1 : tField Try.prog 44 1 = some (1, 42) := by kernel_rfl
theorem tf44x2 : tField Try.prog 44 2 = some (2, 42) := by kernel_rfl
theorem tf44x3 : tField Try.prog 44 3 = some (3, 42) := by kernel_rfl
theorem tf44x4 : tField Try.prog 44 4 = some (4, 3) := by kernel_rfl
theorem tk45 : tk Try.prog 45 = some ⟨1, 24, [.slice none 0 0], false, 5, false⟩ := by kernel_rfl
theorem te45 : tElem Try.prog 45 = some 106 := by kernel_rfl
theorem tk47 : tk Try.prog 47 = some ⟨6, 128, [.slice none 0 0, .slice none 0 0, .slice none 0 0, .slice none 0 0, .int .i64 0, .slice none 0 0], true, 6, true⟩ := by kernel_rfl
theorem tf47x0 : tField Try.prog 47 0 = some (0, 44) := by kernel_rfl
theorem tf47x1 : tField Try.prog 47 1 = some (5, 45) := by kernel_rfl
theorem tk51 : tk Try.prog 51 = some ⟨1, 24, [.slice none 0 0], false, 5, false⟩ := by kernel_rfl
theorem te51 : tElem Try.prog 51 = some 22 := by kernel_rfl
theorem tk71 : tk Try.prog 71 = some ⟨3, 56, [.int .i64 0, .slice none 0 0, .slice none 0 0], true, 6, true⟩ := by kernel_rfl
theorem tf71x0 : tField Try.prog 71 0 = some (0, 3) := by kernel_rfl
theorem tf71x1 : tField Try.prog 71 1 = some (1, 22) := by kernel_rfl
theorem tf71x2 : tField Try.prog 71 2 = some (2, 22) := by kernel_rfl
theorem tk75 : tk Try.prog 75 = some ⟨3, 56, [.int .i64 0, .slice none 0 0, .slice none 0 0], true, 6, true⟩ := by kernel_rfl
theorem tf75x0 : tField Try.prog 75 0 = some (0, 3) := by kernel_rfl
theorem tf75x1 : tField Try.prog 75 1 = some (1, 22) := by kernel_rfl
theorem tf75x2 : tField Try.prog 75 2 = some (2, 22) := by kernel_rfl
theorem tk92 : tk Try.prog 92 = some ⟨1, 8, [.pointer none], false, 4, false⟩ := by kernel_rfl
theorem tk96 : tk Try.prog 96 = some ⟨1, 24, [.slice none 0 0], false, 5, false⟩ := by kernel_rfl
theorem te96 : tElem Try.prog 96 = some 42 := by kernel_rfl
theorem tk102 : tk Try.prog 102 = some ⟨1, 8, [.pointer none], false, 4, false⟩ := by kernel_rfl
theorem tk106 : tk Try.prog 106 = some ⟨4, 64, [.int .i64 0, .int .i64 0, .slice none 0 0, .slice none 0 0], true, 6, true⟩ := by kernel_rfl
theorem tf106x0 : tField Try.prog 106 0 = some (0, 3) := by kernel_rfl
theorem tf106x1 : tField Try.prog 106 1 = some (1, 75) := by kernel_rfl
theorem tk112 : tk Try.prog 112 = some ⟨1, 24, [.slice none 0 0], false, 5, false⟩ := by kernel_rfl
theorem te112 : tElem Try.prog 112 = some 28 := by kernel_rfl
theorem tk118 : tk Try.prog 118 = some ⟨1, 8, [.pointer none], false, 4, false⟩ := by kernel_rfl
theorem tk121 : tk Try.prog 121 = some ⟨1, 8, [.pointer none], false, 4, false⟩ := by kernel_rfl
theorem tk123 : tk Try.prog 123 = some ⟨1, 1, [.bool false], true, 6, true⟩ := by kernel_rfl
theorem tf123x0 : tField Try.prog 123 0 = some (0, 4) := by kernel_rfl
theorem tk128 : tk Try.prog 128 = some ⟨1, 24, [.slice none 0 0], false, 5, false⟩ := by kernel_rfl
theorem te128 : tElem Try.prog 128 = some 163 := by kernel_rfl
theorem tk130 : tk Try.prog 130 = some ⟨2, 32, [.bool false, .slice none 0 0], true, 6, true⟩ := by kernel_rfl
theorem tf130x0 : tField Try.prog 130 0 = some (0, 4) := by kernel_rfl
theorem tf130x1 : tField Try.prog 130 1 = some (1, 128) := by kernel_rfl
theorem tk137 : tk Try.prog 137 = some ⟨4, 64, [.int .i64 0, .int .i64 0, .slice none 0 0, .slice none 0 0], true, 6, true⟩ := by kernel_rfl
theorem tf137x0 : tField Try.prog 137 0 = some (0, 3) := by kernel_rfl
theorem tf137x1 : tField Try.prog 137 1 = some (1, 71) := by kernel_rfl
theorem tk141 : tk Try.prog 141 = some ⟨1, 8, [.nilFunc], false, 8, false⟩ := by kernel_rfl
theorem tk155 : tk Try.prog 155 = some ⟨1, 8, [.int .u64 0], false, 2, false⟩ := by kernel_rfl
theorem ti155 : tInt Try.prog 155 = some .u64 := by kernel_rfl
theorem tk157 : tk Try.prog 157 = some ⟨3, 24, [.bool false, .int .u64 0, .int .u64 0], true, 6, true⟩ := by kernel_rfl
theorem tf157x0 : tField Try.prog 157 0 = some (0, 4) := by kernel_rfl
theorem tf157x1 : tField Try.prog 157 1 = some (1, 155) := by kernel_rfl
theorem tf157x2 : tField Try.prog 157 2 = some (2, 155) := by kernel_rfl
theorem tk162 : tk Try.prog 162 = some ⟨1, 8, [.int .u64 0], false, 2, false⟩ := by kernel_rfl
theorem ti162 : tInt Try.prog 162 = some .u64 := by kernel_rfl
theorem tk163 : tk Try.prog 163 = some ⟨1, 4, [.int .u32 0], false, 2, false⟩ := by kernel_rfl
theorem ti163 : tInt Try.prog 163 = some .u32 := by kernel_rfl
theorem tk168 : tk Try.prog 168 = some ⟨1, 8, [.nilFunc], false, 8, false⟩ := by kernel_rfl
theorem TY : tk Try.prog 2 = some ⟨1, 8, [.int .i64 0], false, 2, false⟩ ∧
  tInt Try.prog 2 = some .i64 ∧
  tk Try.prog 3 = some ⟨1, 8, [.int .i64 0], false, 2, false⟩ ∧
  tInt Try.prog 3 = some .i64 ∧
  tk Try.prog 4 = some ⟨1, 1, [.bool false], false, 1, false⟩ ∧
  tk Try.prog 9 = some ⟨1, 16, [.string ⟨#[]⟩], false, 3, false⟩ ∧
  tElem Try.prog 9 = none ∧
  tk Try.prog 22 = some ⟨1, 24, [.slice none 0 0], false, 5, false⟩ ∧
  tElem Try.prog 22 = some 3 ∧
  tk Try.prog 24 = some ⟨2, 16, [.int .i64 0, .int .i64 0], true, 6, true⟩ ∧
  tField Try.prog 24 0 = some (0, 3) ∧
  tField Try.prog 24 1 = some (1, 3) ∧
  tk Try.prog 28 = some ⟨2, 16, [.int .i64 0, .int .i64 0], true, 6, true⟩ ∧
  tField Try.prog 28 0 = some (0, 3) ∧
  tField Try.prog 28 1 = some (1, 3) ∧
  tk Try.prog 34 = some ⟨1, 24, [.slice none 0 0], false, 5, false⟩ ∧
  tElem Try.prog 34 = some 71 ∧
  tk Try.prog 36 = some ⟨5, 104, [.slice none 0 0, .slice none 0 0, .slice none 0 0, .slice none 0 0, .int .i64 0], true, 6, true⟩ ∧
  tField Try.prog 36 0 = some (0, 34) ∧
  tField Try.prog 36 1 = some (1, 34) ∧
  tField Try.prog 36 2 = some (2, 34) ∧
  tField Try.prog 36 3 = some (3, 34) ∧
  tField Try.prog 36 4 = some (4, 3) ∧
  tk Try.prog 37 = some ⟨1, 24, [.slice none 0 0], false, 5, false⟩ ∧
  tElem Try.prog 37 = some 137 ∧
  tk Try.prog 39 = some ⟨6, 128, [.slice none 0 0, .slice none 0 0, .slice none 0 0, .slice none 0 0, .int .i64 0, .slice none 0 0], true, 6, true⟩ ∧
  tField Try.prog 39 0 = some (0, 36) ∧
  tField Try.prog 39 1 = some (5, 37) ∧
  tk Try.prog 42 = some ⟨1, 24, [.slice none 0 0], false, 5, false⟩ ∧
  tElem Try.prog 42 = some 75 ∧
  tk Try.prog 44 = some ⟨5, 104, [.slice none 0 0, .slice none 0 0, .slice none 0 0, .slice none 0 0, .int .i64 0], true, 6, true⟩ ∧
  tField Try.prog 44 0 = some (0, 42) ∧
  tField Try.prog 44 1 = some (1, 42) ∧
  tField Try.prog 44 2 = some (2, 42) ∧
  tField Try.prog 44 3 = some (3, 42) ∧
  tField Try.prog 44 4 = some (4, 3) ∧
  tk Try.prog 45 = some ⟨1, 24, [.slice none 0 0], false, 5, false⟩ ∧
  tElem Try.prog 45 = some 106 ∧
  tk Try.prog 47 = some ⟨6, 128, [.slice none 0 0, .slice none 0 0, .slice none 0 0, .slice none 0 0, .int .i64 0, .slice none 0 0], true, 6, true⟩ ∧
  tField Try.prog 47 0 = some (0, 44) ∧
  tField Try.prog 47 1 = some (5, 45) ∧
  tk Try.prog 51 = some ⟨1, 24, [.slice none 0 0], false, 5, false⟩ ∧
  tElem Try.prog 51 = some 22 ∧
  tk Try.prog 71 = some ⟨3, 56, [.int .i64 0, .slice none 0 0, .slice none 0 0], true, 6, true⟩ ∧
  tField Try.prog 71 0 = some (0, 3) ∧
  tField Try.prog 71 1 = some (1, 22) ∧
  tField Try.prog 71 2 = some (2, 22) ∧
  tk Try.prog 75 = some ⟨3, 56, [.int .i64 0, .slice none 0 0, .slice none 0 0], true, 6, true⟩ ∧
  tField Try.prog 75 0 = some (0, 3) ∧
  tField Try.prog 75 1 = some (1, 22) ∧
  tField Try.prog 75 2 = some (2, 22) ∧
  tk Try.prog 92 = some ⟨1, 8, [.pointer none], false, 4, false⟩ ∧
  tk Try.prog 96 = some ⟨1, 24, [.slice none 0 0], false, 5, false⟩ ∧
  tElem Try.prog 96 = some 42 ∧
  tk Try.prog 102 = some ⟨1, 8, [.pointer none], false, 4, false⟩ ∧
  tk Try.prog 106 = some ⟨4, 64, [.int .i64 0, .int .i64 0, .slice none 0 0, .slice none 0 0], true, 6, true⟩ ∧
  tField Try.prog 106 0 = some (0, 3) ∧
  tField Try.prog 106 1 = some (1, 75) ∧
  tk Try.prog 112 = some ⟨1, 24, [.slice none 0 0], false, 5, false⟩ ∧
  tElem Try.prog 112 = some 28 ∧
  tk Try.prog 118 = some ⟨1, 8, [.pointer none], false, 4, false⟩ ∧
  tk Try.prog 121 = some ⟨1, 8, [.pointer none], false, 4, false⟩ ∧
  tk Try.prog 123 = some ⟨1, 1, [.bool false], true, 6, true⟩ ∧
  tField Try.prog 123 0 = some (0, 4) ∧
  tk Try.prog 128 = some ⟨1, 24, [.slice none 0 0], false, 5, false⟩ ∧
  tElem Try.prog 128 = some 163 ∧
  tk Try.prog 130 = some ⟨2, 32, [.bool false, .slice none 0 0], true, 6, true⟩ ∧
  tField Try.prog 130 0 = some (0, 4) ∧
  tField Try.prog 130 1 = some (1, 128) ∧
  tk Try.prog 137 = some ⟨4, 64, [.int .i64 0, .int .i64 0, .slice none 0 0, .slice none 0 0], true, 6, true⟩ ∧
  tField Try.prog 137 0 = some (0, 3) ∧
  tField Try.prog 137 1 = some (1, 71) ∧
  tk Try.prog 141 = some ⟨1, 8, [.nilFunc], false, 8, false⟩ ∧
  tk Try.prog 155 = some ⟨1, 8, [.int .u64 0], false, 2, false⟩ ∧
  tInt Try.prog 155 = some .u64 ∧
  tk Try.prog 157 = some ⟨3, 24, [.bool false, .int .u64 0, .int .u64 0], true, 6, true⟩ ∧
  tField Try.prog 157 0 = some (0, 4) ∧
  tField Try.prog 157 1 = some (1, 155) ∧
  tField Try.prog 157 2 = some (2, 155) ∧
  tk Try.prog 162 = some ⟨1, 8, [.int .u64 0], false, 2, false⟩ ∧
  tInt Try.prog 162 = some .u64 ∧
  tk Try.prog 163 = some ⟨1, 4, [.int .u32 0], false, 2, false⟩ ∧
  tInt Try.prog 163 = some .u32 ∧
  tk Try.prog 168 = some ⟨1, 8, [.nilFunc], false, 8, false⟩ := And.intro tk2 (And.intro ti2 (And.intro tk3 (And.intro ti3 (And.intro tk4 (And.intro tk9 (And.intro te9 (And.intro tk22 (And.intro te22 (And.intro tk24 (And.intro tf24x0 (And.intro tf24x1 (And.intro tk28 (And.intro tf28x0 (And.intro tf28x1 (And.intro tk34 (And.intro te34 (And.intro tk36 (And.intro tf36x0 (And.intro tf36x1 (And.intro tf36x2 (And.intro tf36x3 (And.intro tf36x4 (And.intro tk37 (And.intro te37 (And.intro tk39 (And.intro tf39x0 (And.intro tf39x1 (And.intro tk42 (And.intro te42 (And.intro tk44 (And.intro tf44x0 (And.intro tf44x1 (And.intro tf44x2 (And.intro tf44x3 (And.intro tf44x4 (And.intro tk45 (And.intro te45 (And.intro tk47 (And.intro tf47x0 (And.intro tf47x1 (And.intro tk51 (And.intro te51 (And.intro tk71 (And.intro tf71x0 (And.intro tf71x1 (And.intro tf71x2 (And.intro tk75 (And.intro tf75x0 (And.intro tf75x1 (And.intro tf75x2 (And.intro tk92 (And.intro tk96 (And.intro te96 (And.intro tk102 (And.intro tk106 (And.intro tf106x0 (And.intro tf106x1 (And.intro tk112 (And.intro te112 (And.intro tk118 (And.intro tk121 (And.intro tk123 (And.intro tf123x0 (And.intro tk128 (And.intro te128 (And.intro tk130 (And.intro tf130x0 (And.intro tf130x1 (And.intro tk137 (And.intro tf137x0 (And.intro tf137x1 (And.intro tk141 (And.intro tk155 (And.intro ti155 (And.intro tk157 (And.intro tf157x0 (And.intro tf157x1 (And.intro tf157x2 (And.intro tk162 (And.intro ti162 (And.intro tk163 (And.intro ti163 (tk168)))))))))))))))))))))))))))))))))))))))))))))))))))))))))))))))))))))))))))))))))))
theorem HB : hasBody Try.prog 3 = true ∧
  hasBody Try.prog 4 = true ∧
  hasBody Try.prog 5 = true ∧
  hasBody Try.prog 6 = true ∧
  hasBody Try.prog 7 = true ∧
  hasBody Try.prog 8 = true ∧
  hasBody Try.prog 9 = true ∧
  hasBody Try.prog 10 = true ∧
  hasBody Try.prog 11 = true ∧
  hasBody Try.prog 12 = true ∧
  hasBody Try.prog 13 = true ∧
  hasBody Try.prog 14 = true ∧
  hasBody Try.prog 15 = true ∧
  hasBody Try.prog 16 = true ∧
  hasBody Try.prog 17 = true ∧
  hasBody Try.prog 18 = true ∧
  hasBody Try.prog 19 = true ∧
  hasBody Try.prog 20 = true ∧
  hasBody Try.prog 21 = true ∧
  hasBody Try.prog 22 = true ∧
  hasBody Try.prog 23 = true ∧
  hasBody Try.prog 24 = true ∧
  hasBody Try.prog 25 = true ∧
  hasBody Try.prog 26 = true ∧
  hasBody Try.prog 27 = true ∧
  hasBody Try.prog 28 = true ∧
  hasBody Try.prog 29 = true ∧
  hasBody Try.prog 30 = true ∧
  hasBody Try.prog 31 = true ∧
  hasBody Try.prog 32 = true ∧
  hasBody Try.prog 33 = true ∧
  hasBody Try.prog 34 = true ∧
  hasBody Try.prog 35 = true ∧
  hasBody Try.prog 36 = true ∧
  hasBody Try.prog 37 = true ∧
  hasBody Try.prog 38 = true ∧
  hasBody Try.prog 39 = true ∧
  hasBody Try.prog 40 = true ∧
  hasBody Try.prog 41 = true ∧
  hasBody Try.prog 42 = true ∧
  hasBody Try.prog 43 = true ∧
  hasBody Try.prog 44 = true ∧
  hasBody Try.prog 45 = true ∧
  hasBody Try.prog 46 = true ∧
  hasBody Try.prog 47 = true ∧
  hasBody Try.prog 48 = true ∧
  hasBody Try.prog 49 = true ∧
  hasBody Try.prog 50 = true ∧
  hasBody Try.prog 51 = true ∧
  hasBody Try.prog 52 = true ∧
  hasBody Try.prog 53 = true ∧
  hasBody Try.prog 54 = true ∧
  hasBody Try.prog 55 = true ∧
  hasBody Try.prog 56 = true ∧
  hasBody Try.prog 57 = true ∧
  hasBody Try.prog 58 = true ∧
  hasBody Try.prog 59 = true ∧
  hasBody Try.prog 60 = true ∧
  hasBody Try.prog 61 = true ∧
  hasBody Try.prog 62 = true ∧
  hasBody Try.prog 63 = true ∧
  hasBody Try.prog 64 = true ∧
  hasBody Try.prog 65 = true ∧
  hasBody Try.prog 66 = true ∧
  hasBody Try.prog 67 = true ∧
  hasBody Try.prog 68 = true ∧
  hasBody Try.prog 69 = true ∧
  hasBody Try.prog 70 = true ∧
  hasBody Try.prog 71 = true ∧
  hasBody Try.prog 72 = true ∧
  hasBody Try.prog 73 = true ∧
  hasBody Try.prog 74 = true ∧
  hasBody Try.prog 75 = true ∧
  hasBody Try.prog 76 = true ∧
  hasBody Try.prog 77 = true ∧
  hasBody Try.prog 78 = true ∧
  hasBody Try.prog 79 = true ∧
  hasBody Try.prog 80 = true ∧
  hasBody Try.prog 81 = true ∧
  hasBody Try.prog 82 = true ∧
  hasBody Try.prog 83 = true ∧
  hasBody Try.prog 84 = true ∧
  hasBody Try.prog 85 = true ∧
  hasBody Try.prog 86 = true ∧
  hasBody Try.prog 87 = true ∧
  hasBody Try.prog 88 = true ∧
  hasBody Try.prog 89 = true ∧
  hasBody Try.prog 90 = true ∧
  hasBody Try.prog 91 = true ∧
  hasBody Try.prog 92 = true ∧
  hasBody Try.prog 93 = true ∧
  hasBody Try.prog 94 = true ∧
  hasBody Try.prog 95 = true ∧
  hasBody Try.prog 96 = true ∧
  hasBody Try.prog 97 = true ∧
  hasBody Try.prog 98 = true ∧
  hasBody Try.prog 99 = true ∧
  hasBody Try.prog 100 = true ∧
  hasBody Try.prog 101 = true ∧
  hasBody Try.prog 102 = true ∧
  hasBody Try.prog 103 = true ∧
  hasBody Try.prog 104 = true ∧
  hasBody Try.prog 105 = true ∧
  hasBody Try.prog 106 = true ∧
  hasBody Try.prog 107 = true ∧
  hasBody Try.prog 108 = true ∧
  hasBody Try.prog 109 = true ∧
  hasBody Try.prog 110 = true ∧
  hasBody Try.prog 111 = true ∧
  hasBody Try.prog 112 = true ∧
  hasBody Try.prog 113 = true ∧
  hasBody Try.prog 114 = true ∧
  hasBody Try.prog 115 = true ∧
  hasBody Try.prog 116 = true ∧
  hasBody Try.prog 117 = true ∧
  hasBody Try.prog 118 = true ∧
  hasBody Try.prog 119 = true ∧
  hasBody Try.prog 120 = true ∧
  hasBody Try.prog 121 = true ∧
  hasBody Try.prog 122 = true ∧
  hasBody Try.prog 123 = true ∧
  hasBody Try.prog 124 = true ∧
  hasBody Try.prog 125 = true ∧
  hasBody Try.prog 126 = true ∧
  hasBody Try.prog 127 = true ∧
  hasBody Try.prog 128 = true ∧
  hasBody Try.prog 129 = true ∧
  hasBody Try.prog 130 = true ∧
  hasBody Try.prog 131 = true ∧
  hasBody Try.prog 132 = true ∧
  hasBody Try.prog 133 = true ∧
  hasBody Try.prog 134 = true ∧
  hasBody Try.prog 135 = true ∧
  hasBody Try.prog 136 = true ∧
  hasBody Try.prog 137 = true ∧
  hasBody Try.prog 138 = true ∧
  hasBody Try.prog 139 = true ∧
  hasBody Try.prog 140 = true ∧
  hasBody Try.prog 141 = true ∧
  hasBody Try.prog 142 = true ∧
  hasBody Try.prog 143 = true ∧
  hasBody Try.prog 144 = true ∧
  hasBody Try.prog 145 = true ∧
  hasBody Try.prog 146 = true ∧
  hasBody Try.prog 147 = true ∧
  hasBody Try.prog 148 = true ∧
  hasBody Try.prog 149 = true ∧
  hasBody Try.prog 150 = true ∧
  hasBody Try.prog 151 = true ∧
  hasBody Try.prog 152 = true ∧
  hasBody Try.prog 153 = true ∧
  hasBody Try.prog 154 = true ∧
  hasBody Try.prog 155 = true ∧
  hasBody Try.prog 156 = true ∧
  hasBody Try.prog 157 = true ∧
  hasBody Try.prog 158 = true ∧
  hasBody Try.prog 159 = true ∧
  hasBody Try.prog 160 = true ∧
  hasBody Try.prog 161 = true ∧
  hasBody Try.prog 162 = true ∧
  hasBody Try.prog 163 = true ∧
  hasBody Try.prog 164 = true ∧
  hasBody Try.prog 165 = true ∧
  hasBody Try.prog 166 = true ∧
  hasBody Try.prog 167 = true ∧
  hasBody Try.prog 168 = true ∧
  hasBody Try.prog 169 = true ∧
  hasBody Try.prog 171 = true ∧
  hasBody Try.prog 172 = true ∧
  hasBody Try.prog 173 = true ∧
  hasBody Try.prog 174 = true ∧
  hasBody Try.prog 175 = true ∧
  hasBody Try.prog 176 = true ∧
  hasBody Try.prog 177 = true ∧
  hasBody Try.prog 178 = true ∧
  hasBody Try.prog 180 = true ∧
  hasBody Try.prog 181 = true ∧
  hasBody Try.prog 182 = true ∧
  hasBody Try.prog 183 = true ∧
  hasBody Try.prog 184 = true ∧
  hasBody Try.prog 185 = true ∧
  hasBody Try.prog 186 = true ∧
  hasBody Try.prog 187 = true ∧
  hasBody Try.prog 188 = true ∧
  hasBody Try.prog 190 = true ∧
  hasBody Try.prog 191 = true ∧
  hasBody Try.prog 192 = true ∧
  hasBody Try.prog 193 = true ∧
  hasBody Try.prog 194 = true ∧
  hasBody Try.prog 195 = true ∧
  hasBody Try.prog 196 = true ∧
  hasBody Try.prog 197 = true ∧
  hasBody Try.prog 198 = true ∧
  hasBody Try.prog 200 = true ∧
  hasBody Try.prog 202 = true ∧
  hasBody Try.prog 203 = true ∧
  hasBody Try.prog 204 = true ∧
  hasBody Try.prog 205 = true ∧
  hasBody Try.prog 206 = true := by
  repeat' apply And.intro
  all_goals kernel_rfl
end Go.Proofs
