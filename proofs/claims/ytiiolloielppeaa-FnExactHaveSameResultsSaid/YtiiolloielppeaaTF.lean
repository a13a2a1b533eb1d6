/- Contracts of functions, facts of types, or the plain law behind one statement (own work): TF. Conditions: those told in each theorem. -/
import Derived.Test.YtiiolloielppeaaVB
import Derived.Test.YtiiolloielppeaaProg
import Derived.KernelRfl
set_option linter.all false
namespace Go.Proofs
open Go Go.V
instance : Laid Try.prog := ⟨fun _ => True⟩
theorem tk3 : tk Try.prog 3 = some ⟨1, 8, [.int .i64 0], false, 2, false⟩ := by kernel_rfl
theorem ti3 : tInt Try.prog 3 = some .i64 := by kernel_rfl
theorem tk4 : tk Try.prog 4 = some ⟨1, 1, [.bool false], false, 1, false⟩ := by kernel_rfl
theorem tk9 : tk Try.prog 9 = some ⟨1, 16, [.string ⟨#[]⟩], false, 3, false⟩ := by kernel_rfl
theorem te9 : tElem Try.prog 9 = none := by kernel_rfl
theorem tk22 : tk Try.prog 22 = some ⟨1, 24, [.slice none 0 0], false, 5, false⟩ := by kernel_rfl
theorem te22 : tElem Try.prog 22 = some 36 := by kernel_rfl
theorem tk24 : tk Try.prog 24 = some ⟨5, 104, [.slice none 0 0, .slice none 0 0, .slice none 0 0, .slice none 0 0, .int .i64 0], true, 6, true⟩ := by kernel_rfl
theorem tf24x0 : tField Try.prog 24 0 = some (0, 22) := by kernel_rfl
theorem tf24x1 : tField Try.prog 24 1 = some (1, 22) := by kernel_rfl
theorem tf24x2 : tField Try.prog 24 2 = some (2, 22) := by kernel_rfl
theorem tf24x3 : tField Try.prog 24 3 = some (3, 22) := by kernel_rfl
theorem tf24x4 : tField Try.prog 24 4 = some (4, 3) := by kernel_rfl
theorem tk28 : tk Try.prog 28 = some ⟨1, 24, [.slice none 0 0], false, 5, false⟩ := by kernel_rfl
theorem te28 : tElem Try.prog 28 = some 42 := by kernel_rfl
theorem tk30 : tk Try.prog 30 = some ⟨5, 104, [.slice none 0 0, .slice none 0 0, .slice none 0 0, .slice none 0 0, .int .i64 0], true, 6, true⟩ := by kernel_rfl
theorem tf30x0 : tField Try.prog 30 0 = some (0, 28) := by kernel_rfl
theorem tf30x1 : tField Try.prog 30 1 = some (1, 28) := by kernel_rfl
theorem tf30x2 : tField Try.prog 30 2 = some (2, 28) := by kernel_rfl
theorem tf30x3 : tField Try.prog 30 3 = some (3, 28) := by kernel_rfl
theorem tf30x4 : tField Try.prog 30 4 = some (4, 3) := by kernel_rfl
theorem tk34 : tk Try.prog 34 = some ⟨1, 24, [.slice none 0 0], false, 5, false⟩ := by kernel_rfl
theorem te34 : tElem Try.prog 34 = some 3 := by kernel_rfl
theorem tk36 : tk Try.prog 36 = some ⟨3, 56, [.int .i64 0, .slice none 0 0, .slice none 0 0], true, 6, true⟩ := by kernel_rfl
theorem tf36x0 : tField Try.prog 36 0 = some (0, 3) := by kernel_rfl
theorem tf36x1 : tField Try.prog 36 1 = some (1, 34) := by kernel_rfl
theorem tf36x2 : tField Try.prog 36 2 = some (2, 34) := by kernel_rfl
theorem tk39 : tk Try.prog 39 = some ⟨2, 16, [.int .i64 0, .int .i64 0], true, 6, true⟩ := by kernel_rfl
theorem tf39x0 : tField Try.prog 39 0 = some (0, 3) := by kernel_rfl
theorem tf39x1 : tField Try.prog 39 1 = some (1, 3) := by kernel_rfl
theorem tk42 : tk Try.prog 42 = some ⟨3, 56, [.int .i64 0, .slice none 0 0, .slice none 0 0], true, 6, true⟩ := by kernel_rfl
theorem tf42x0 : tField Try.prog 42 0 = some (0, 3) := by kernel_rfl
theorem tf42x1 : tField Try.prog 42 1 = some (1, 34) := by kernel_rfl
theorem tf42x2 : tField Try.prog 42 2 = some (2, 34) := by kernel_rfl
theorem tk45 : tk Try.prog 45 = some ⟨1, 8, [.nilFunc], false, 8, false⟩ := by kernel_rfl
theorem tk47 : tk Try.prog 47 = some ⟨1, 24, [.slice none 0 0], false, 5, false⟩ := by kernel_rfl
theorem te47 : tElem Try.prog 47 = some 39 := by kernel_rfl
theorem tk53 : tk Try.prog 53 = some ⟨1, 24, [.slice none 0 0], false, 5, false⟩ := by kernel_rfl
theorem te53 : tElem Try.prog 53 = some 128 := by kernel_rfl
theorem tk55 : tk Try.prog 55 = some ⟨6, 128, [.slice none 0 0, .slice none 0 0, .slice none 0 0, .slice none 0 0, .int .i64 0, .slice none 0 0], true, 6, true⟩ := by kernel_rfl
theorem tf55x0 : tField Try.prog 55 0 = some (0, 24) := by kernel_rfl
theorem tf55x1 : tField Try.prog 55 1 = some (5, 53) := by kernel_rfl
theorem tk58 : tk Try.prog 58 = some ⟨1, 24, [.slice none 0 0], false, 5, false⟩ := by kernel_rfl
theorem te58 : tElem Try.prog 58 = some 100 := by kernel_rfl
theorem tk60 : tk Try.prog 60 = some ⟨6, 128, [.slice none 0 0, .slice none 0 0, .slice none 0 0, .slice none 0 0, .int .i64 0, .slice none 0 0], true, 6, true⟩ := by kernel_rfl
theorem tf60x0 : tField Try.prog 60 0 = some (0, 30) := by kernel_rfl
theorem tf60x1 : tField Try.prog 60 1 = some (5, 58) := by kernel_rfl
theorem tk74 : tk Try.prog 74 = some ⟨1, 24, [.slice none 0 0], false, 5, false⟩ := by kernel_rfl
theorem te74 : tElem Try.prog 74 = some 28 := by kernel_rfl
theorem tk79 : tk Try.prog 79 = some ⟨1, 8, [.pointer none], false, 4, false⟩ := by kernel_rfl
theorem tk88 : tk Try.prog 88 = some ⟨1, 8, [.pointer none], false, 4, false⟩ := by kernel_rfl
theorem tk91 : tk Try.prog 91 = some ⟨1, 8, [.pointer none], false, 4, false⟩ := by kernel_rfl
theorem tk93 : tk Try.prog 93 = some ⟨1, 1, [.bool false], true, 6, true⟩ := by kernel_rfl
theorem tf93x0 : tField Try.prog 93 0 = some (0, 4) := by kernel_rfl
theorem tk100 : tk Try.prog 100 = some ⟨4, 64, [.int .i64 0, .int .i64 0, .slice none 0 0, .slice none 0 0], true, 6, true⟩ := by kernel_rfl
theorem tf100x0 : tField Try.prog 100 0 = some (0, 3) := by kernel_rfl
theorem tf100x1 : tField Try.prog 100 1 = some (1, 42) := by kernel_rfl
theorem tk104 : tk Try.prog 104 = some ⟨1, 8, [.pointer none], false, 4, false⟩ := by kernel_rfl
theorem tk121 : tk Try.prog 121 = some ⟨1, 8, [.int .u64 0], false, 2, false⟩ := by kernel_rfl
theorem ti121 : tInt Try.prog 121 = some .u64 := by kernel_rfl
theorem tk123 : tk Try.prog 123 = some ⟨3, 24, [.bool false, .int .u64 0, .int .u64 0], true, 6, true⟩ := by kernel_rfl
theorem tf123x0 : tField Try.prog 123 0 = some (0, 4) := by kernel_rfl
theorem tf123x1 : tField Try.prog 123 1 = some (1, 121) := by kernel_rfl
theorem tf123x2 : tField Try.prog 123 2 = some (2, 121) := by kernel_rfl
theorem tk128 : tk Try.prog 128 = some ⟨4, 64, [.int .i64 0, .int .i64 0, .slice none 0 0, .slice none 0 0], true, 6, true⟩ := by kernel_rfl
theorem tf128x0 : tField Try.prog 128 0 = some (0, 3) := by kernel_rfl
theorem tf128x1 : tField Try.prog 128 1 = some (1, 36) := by kernel_rfl
theorem tk135 : tk Try.prog 135 = some ⟨1, 8, [.nilFunc], false, 8, false⟩ := by kernel_rfl
theorem tk139 : tk Try.prog 139 = some ⟨1, 8, [.nilFunc], false, 8, false⟩ := by kernel_rfl
theorem tk144 : tk Try.prog 144 = some ⟨1, 24, [.slice none 0 0], false, 5, false⟩ := by kernel_rfl
theorem te144 : tElem Try.prog 144 = some 34 := by kernel_rfl
theorem tk145 : tk Try.prog 145 = some ⟨1, 8, [.int .u64 0], false, 2, false⟩ := by kernel_rfl
theorem ti145 : tInt Try.prog 145 = some .u64 := by kernel_rfl
theorem tk150 : tk Try.prog 150 = some ⟨1, 24, [.slice none 0 0], false, 5, false⟩ := by kernel_rfl
theorem te150 : tElem Try.prog 150 = some 144 := by kernel_rfl
theorem TY : tk Try.prog 3 = some ⟨1, 8, [.int .i64 0], false, 2, false⟩ ∧
  tInt Try.prog 3 = some .i64 ∧
  tk Try.prog 4 = some ⟨1, 1, [.bool false], false, 1, false⟩ ∧
  tk Try.prog 9 = some ⟨1, 16, [.string ⟨#[]⟩], false, 3, false⟩ ∧
  tElem Try.prog 9 = none ∧
  tk Try.prog 22 = some ⟨1, 24, [.slice none 0 0], false, 5, false⟩ ∧
  tElem Try.prog 22 = some 36 ∧
  tk Try.prog 24 = some ⟨5, 104, [.slice none 0 0, .slice none 0 0, .slice none 0 0, .slice none 0 0, .int .i64 0], true, 6, true⟩ ∧
  tField Try.prog 24 0 = some (0, 22) ∧
  tField Try.prog 24 1 = some (1, 22) ∧
  tField Try.prog 24 2 = some (2, 22) ∧
  tField Try.prog 24 3 = some (3, 22) ∧
  tField Try.prog 24 4 = some (4, 3) ∧
  tk Try.prog 28 = some ⟨1, 24, [.slice none 0 0], false, 5, false⟩ ∧
  tElem Try.prog 28 = some 42 ∧
  tk Try.prog 30 = some ⟨5, 104, [.slice none 0 0, .slice none 0 0, .slice none 0 0, .slice none 0 0, .int .i64 0], true, 6, true⟩ ∧
  tField Try.prog 30 0 = some (0, 28) ∧
  tField Try.prog 30 1 = some (1, 28) ∧
  tField Try.prog 30 2 = some (2, 28) ∧
  tField Try.prog 30 3 = some (3, 28) ∧
  tField Try.prog 30 4 = some (4, 3) ∧
  tk Try.prog 34 = some ⟨1, 24, [.slice none 0 0], false, 5, false⟩ ∧
  tElem Try.prog 34 = some 3 ∧
  tk Try.prog 36 = some ⟨3, 56, [.int .i64 0, .slice none 0 0, .slice none 0 0], true, 6, true⟩ ∧
  tField Try.prog 36 0 = some (0, 3) ∧
  tField Try.prog 36 1 = some (1, 34) ∧
  tField Try.prog 36 2 = some (2, 34) ∧
  tk Try.prog 39 = some ⟨2, 16, [.int .i64 0, .int .i64 0], true, 6, true⟩ ∧
  tField Try.prog 39 0 = some (0, 3) ∧
  tField Try.prog 39 1 = some (1, 3) ∧
  tk Try.prog 42 = some ⟨3, 56, [.int .i64 0, .slice none 0 0, .slice none 0 0], true, 6, true⟩ ∧
  tField Try.prog 42 0 = some (0, 3) ∧
  tField Try.prog 42 1 = some (1, 34) ∧
  tField Try.prog 42 2 = some (2, 34) ∧
  tk Try.prog 45 = some ⟨1, 8, [.nilFunc], false, 8, false⟩ ∧
  tk Try.prog 47 = some ⟨1, 24, [.slice none 0 0], false, 5, false⟩ ∧
  tElem Try.prog 47 = some 39 ∧
  tk Try.prog 53 = some ⟨1, 24, [.slice none 0 0], false, 5, false⟩ ∧
  tElem Try.prog 53 = some 128 ∧
  tk Try.prog 55 = some ⟨6, 128, [.slice none 0 0, .slice none 0 0, .slice none 0 0, .slice none 0 0, .int .i64 0, .slice none 0 0], true, 6, true⟩ ∧
  tField Try.prog 55 0 = some (0, 24) ∧
  tField Try.prog 55 1 = some (5, 53) ∧
  tk Try.prog 58 = some ⟨1, 24, [.slice none 0 0], false, 5, false⟩ ∧
  tElem Try.prog 58 = some 100 ∧
  tk Try.prog 60 = some ⟨6, 128, [.slice none 0 0, .slice none 0 0, .slice none 0 0, .slice none 0 0, .int .i64 0, .slice none 0 0], true, 6, true⟩ ∧
  tField Try.prog 60 0 = some (0, 30) ∧
  tField Try.prog 60 1 = some (5, 58) ∧
  tk Try.prog 74 = some ⟨1, 24, [.slice none 0 0], false, 5, false⟩ ∧
  tElem Try.prog 74 = some 28 ∧
  tk Try.prog 79 = some ⟨1, 8, [.pointer none], false, 4, false⟩ ∧
  tk Try.prog 88 = some ⟨1, 8, [.pointer none], false, 4, false⟩ ∧
  tk Try.prog 91 = some ⟨1, 8, [.pointer none], false, 4, false⟩ ∧
  tk Try.prog 93 = some ⟨1, 1, [.bool false], true, 6, true⟩ ∧
  tField Try.prog 93 0 = some (0, 4) ∧
  tk Try.prog 100 = some ⟨4, 64, [.int .i64 0, .int .i64 0, .slice none 0 0, .slice none 0 0], true, 6, true⟩ ∧
  tField Try.prog 100 0 = some (0, 3) ∧
  tField Try.prog 100 1 = some (1, 42) ∧
  tk Try.prog 104 = some ⟨1, 8, [.pointer none], false, 4, false⟩ ∧
  tk Try.prog 121 = some ⟨1, 8, [.int .u64 0], false, 2, false⟩ ∧
  tInt Try.prog 121 = some .u64 ∧
  tk Try.prog 123 = some ⟨3, 24, [.bool false, .int .u64 0, .int .u64 0], true, 6, true⟩ ∧
  tField Try.prog 123 0 = some (0, 4) ∧
  tField Try.prog 123 1 = some (1, 121) ∧
  tField Try.prog 123 2 = some (2, 121) ∧
  tk Try.prog 128 = some ⟨4, 64, [.int .i64 0, .int .i64 0, .slice none 0 0, .slice none 0 0], true, 6, true⟩ ∧
  tField Try.prog 128 0 = some (0, 3) ∧
  tField Try.prog 128 1 = some (1, 36) ∧
  tk Try.prog 135 = some ⟨1, 8, [.nilFunc], false, 8, false⟩ ∧
  tk Try.prog 139 = some ⟨1, 8, [.nilFunc], false, 8, false⟩ ∧
  tk Try.prog 144 = some ⟨1, 24, [.slice none 0 0], false, 5, false⟩ ∧
  tElem Try.prog 144 = some 34 ∧
  tk Try.prog 145 = some ⟨1, 8, [.int .u64 0], false, 2, false⟩ ∧
  tInt Try.prog 145 = some .u64 ∧
  tk Try.prog 150 = some ⟨1, 24, [.slice none 0 0], false, 5, false⟩ ∧
  tElem Try.prog 150 = some 144 := And.intro tk3 (And.intro ti3 (And.intro tk4 (And.intro tk9 (And.intro te9 (And.intro tk22 (And.intro te22 (And.intro tk24 (And.intro tf24x0 (And.intro tf24x1 (And.intro tf24x2 (And.intro tf24x3 (And.intro tf24x4 (And.intro tk28 (And.intro te28 (And.intro tk30 (And.intro tf30x0 (And.intro tf30x1 (And.intro tf30x2 (And.intro tf30x3 (And.intro tf30x4 (And.intro tk34 (And.intro te34 (And.intro tk36 (And.intro tf36x0 (And.intro tf36x1 (And.intro tf36x2 (And.intro tk39 (And.intro tf39x0 (And.intro tf39x1 (And.intro tk42 (And.intro tf42x0 (And.intro tf42x1 (And.intro tf42x2 (And.intro tk45 (And.intro tk47 (And.intro te47 (And.intro tk53 (And.intro te53 (And.intro tk55 (And.intro tf55x0 (And.intro tf55x1 (And.intro tk58 (And.intro te58 (And.intro tk60 (And.intro tf60x0 (And.intro tf60x1 (And.intro tk74 (And.intro te74 (And.intro tk79 (And.intro tk88 (And.intro tk91 (And.intro tk93 (And.intro tf93x0 (And.intro tk100 (And.intro tf100x0 (And.intro tf100x1 (And.intro tk104 (And.intro tk121 (And.intro ti121 (And.intro tk123 (And.intro tf123x0 (And.intro tf123x1 (And.intro tf123x2 (And.intro tk128 (And.intro tf128x0 (And.intro tf128x1 (And.intro tk135 (And.intro tk139 (And.intro tk144 (And.intro te144 (And.intro tk145 (And.intro ti145 (And.intro tk150 (te150))))))))))))))))))))))))))))))))))))))))))))))))))))))))))))))))))))))))))
theorem HB : hasBody Try.prog 3 = true ∧
  hasBody Try.prog 4 = true ∧
  hasBody Try.prog 5 = true ∧
  hasBody Try.prog 6 = true ∧
  hasBody Try.prog 7 = true ∧
  hasBody Try.prog 8 = true ∧
  hasBody Try.prog 9 = true ∧
  hasBody Try.prog 10 = true ∧
  hasBody Try.prog 11 = true ∧
  hasBody Try.prog 12 = true ∧
  hasBody Try.prog 13 = true ∧
  hasBody Try.prog 14 = true ∧
  hasBody Try.prog 15 = true ∧
  hasBody Try.prog 16 = true ∧
  hasBody Try.prog 17 = true ∧
  hasBody Try.prog 18 = true ∧
  hasBody Try.prog 19 = true ∧
  hasBody Try.prog 20 = true ∧
  hasBody Try.prog 21 = true ∧
  hasBody Try.prog 22 = true ∧
  hasBody Try.prog 23 = true ∧
  hasBody Try.prog 24 = true ∧
  hasBody Try.prog 25 = true ∧
  hasBody Try.prog 26 = true ∧
  hasBody Try.prog 27 = true ∧
  hasBody Try.prog 28 = true ∧
  hasBody Try.prog 29 = true ∧
  hasBody Try.prog 30 = true ∧
  hasBody Try.prog 31 = true ∧
  hasBody Try.prog 32 = true ∧
  hasBody Try.prog 33 = true ∧
  hasBody Try.prog 34 = true ∧
  hasBody Try.prog 35 = true ∧
  hasBody Try.prog 36 = true ∧
  hasBody Try.prog 37 = true ∧
  hasBody Try.prog 38 = true ∧
  hasBody Try.prog 39 = true ∧
  hasBody Try.prog 40 = true ∧
  hasBody Try.prog 41 = true ∧
  hasBody Try.prog 42 = true ∧
  hasBody Try.prog 43 = true ∧
  hasBody Try.prog 44 = true ∧
  hasBody Try.prog 45 = true ∧
  hasBody Try.prog 46 = true ∧
  hasBody Try.prog 47 = true ∧
  hasBody Try.prog 48 = true ∧
  hasBody Try.prog 49 = true ∧
  hasBody Try.prog 50 = true ∧
  hasBody Try.prog 51 = true ∧
  hasBody Try.prog 52 = true ∧
  hasBody Try.prog 53 = true ∧
  hasBody Try.prog 54 = true ∧
  hasBody Try.prog 55 = true ∧
  hasBody Try.prog 56 = true ∧
  hasBody Try.prog 57 = true ∧
  hasBody Try.prog 58 = true ∧
  hasBody Try.prog 59 = true ∧
  hasBody Try.prog 60 = true ∧
  hasBody Try.prog 61 = true ∧
  hasBody Try.prog 62 = true ∧
  hasBody Try.prog 63 = true ∧
  hasBody Try.prog 64 = true ∧
  hasBody Try.prog 65 = true ∧
  hasBody Try.prog 66 = true ∧
  hasBody Try.prog 67 = true ∧
  hasBody Try.prog 68 = true ∧
  hasBody Try.prog 69 = true ∧
  hasBody Try.prog 70 = true ∧
  hasBody Try.prog 71 = true ∧
  hasBody Try.prog 72 = true ∧
  hasBody Try.prog 73 = true ∧
  hasBody Try.prog 74 = true ∧
  hasBody Try.prog 75 = true ∧
  hasBody Try.prog 76 = true ∧
  hasBody Try.prog 77 = true ∧
  hasBody Try.prog 78 = true ∧
  hasBody Try.prog 79 = true ∧
  hasBody Try.prog 80 = true ∧
  hasBody Try.prog 81 = true ∧
  hasBody Try.prog 82 = true ∧
  hasBody Try.prog 83 = true ∧
  hasBody Try.prog 84 = true ∧
  hasBody Try.prog 85 = true ∧
  hasBody Try.prog 86 = true ∧
  hasBody Try.prog 87 = true ∧
  hasBody Try.prog 88 = true ∧
  hasBody Try.prog 89 = true ∧
  hasBody Try.prog 90 = true ∧
  hasBody Try.prog 91 = true ∧
  hasBody Try.prog 92 = true ∧
  hasBody Try.prog 93 = true ∧
  hasBody Try.prog 94 = true ∧
  hasBody Try.prog 95 = true ∧
  hasBody Try.prog 96 = true ∧
  hasBody Try.prog 97 = true ∧
  hasBody Try.prog 98 = true ∧
  hasBody Try.prog 99 = true ∧
  hasBody Try.prog 100 = true ∧
  hasBody Try.prog 101 = true ∧
  hasBody Try.prog 102 = true ∧
  hasBody Try.prog 103 = true ∧
  hasBody Try.prog 104 = true ∧
  hasBody Try.prog 105 = true ∧
  hasBody Try.prog 106 = true ∧
  hasBody Try.prog 107 = true ∧
  hasBody Try.prog 108 = true ∧
  hasBody Try.prog 109 = true ∧
  hasBody Try.prog 110 = true ∧
  hasBody Try.prog 111 = true ∧
  hasBody Try.prog 112 = true ∧
  hasBody Try.prog 113 = true ∧
  hasBody Try.prog 114 = true ∧
  hasBody Try.prog 115 = true ∧
  hasBody Try.prog 116 = true ∧
  hasBody Try.prog 117 = true ∧
  hasBody Try.prog 118 = true ∧
  hasBody Try.prog 119 = true ∧
  hasBody Try.prog 120 = true ∧
  hasBody Try.prog 121 = true ∧
  hasBody Try.prog 122 = true ∧
  hasBody Try.prog 123 = true ∧
  hasBody Try.prog 124 = true ∧
  hasBody Try.prog 125 = true ∧
  hasBody Try.prog 126 = true ∧
  hasBody Try.prog 127 = true ∧
  hasBody Try.prog 128 = true ∧
  hasBody Try.prog 130 = true ∧
  hasBody Try.prog 132 = true ∧
  hasBody Try.prog 133 = true ∧
  hasBody Try.prog 134 = true ∧
  hasBody Try.prog 135 = true ∧
  hasBody Try.prog 136 = true ∧
  hasBody Try.prog 137 = true ∧
  hasBody Try.prog 138 = true ∧
  hasBody Try.prog 139 = true ∧
  hasBody Try.prog 140 = true ∧
  hasBody Try.prog 141 = true ∧
  hasBody Try.prog 142 = true := by
  repeat' apply And.intro
  all_goals kernel_rfl
end Go.Proofs
