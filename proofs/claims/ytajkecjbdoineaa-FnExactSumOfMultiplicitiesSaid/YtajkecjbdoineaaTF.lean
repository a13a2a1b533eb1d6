/- Contracts of functions, facts of types, or the plain law behind one statement (own work): TF. Conditions: those told in each theorem. -/
import Derived.Test.YtajkecjbdoineaaVB
import Derived.Test.YtajkecjbdoineaaProg
import Derived.KernelRfl
set_option linter.all false
namespace Go.Proofs
open Go Go.V
instance : Laid Try.prog := ⟨fun _ => True⟩
theorem tk3 : tk Try.prog 3 = some ⟨1, 8, [.int .i64 0], false, 2, false⟩ := by kernel_rfl
theorem ti3 : tInt Try.prog 3 = some .i64 := by kernel_rfl
theorem tk4 : tk Try.prog 4 = some ⟨1, 1, [.bool false], false, 1, false⟩ := by kernel_rfl
theorem tk22 : tk Try.prog 22 = some ⟨1, 24, [.slice none 0 0], false, 5, false⟩ := by kernel_rfl
theorem te22 : tElem Try.prog 22 = some 3 := by kernel_rfl
theorem tk23 : tk Try.prog 23 = some ⟨1, 24, [.slice none 0 0], false, 5, false⟩ := by kernel_rfl
theorem te23 : tElem Try.prog 23 = some 22 := by kernel_rfl
theorem tk45 : tk Try.prog 45 = some ⟨1, 8, [.nilFunc], false, 8, false⟩ := by kernel_rfl
theorem TY : tk Try.prog 3 = some ⟨1, 8, [.int .i64 0], false, 2, false⟩ ∧
  tInt Try.prog 3 = some .i64 ∧
  tk Try.prog 4 = some ⟨1, 1, [.bool false], false, 1, false⟩ ∧
  tk Try.prog 22 = some ⟨1, 24, [.slice none 0 0], false, 5, false⟩ ∧
  tElem Try.prog 22 = some 3 ∧
  tk Try.prog 23 = some ⟨1, 24, [.slice none 0 0], false, 5, false⟩ ∧
  tElem Try.prog 23 = some 22 ∧
  tk Try.prog 45 = some ⟨1, 8, [.nilFunc], false, 8, false⟩ := And.intro tk3 (And.intro ti3 (And.intro tk4 (And.intro tk22 (And.intro te22 (And.intro tk23 (And.intro te23 (tk45)))))))
theorem HB : hasBody Try.prog 3 = true ∧
  hasBody Try.prog 4 = true ∧
  hasBody Try.prog 5 = true ∧
  hasBody Try.prog 6 = true ∧
  hasBody Try.prog 7 = true ∧
  hasBody Try.prog 8 = true ∧
  hasBody Try.prog 9 = true ∧
  hasBody Try.prog 10 = true ∧
  hasBody Try.prog 11 = true ∧
  hasBody Try.prog 12 = true ∧
  hasBody Try.prog 13 = true ∧
  hasBody Try.prog 14 = true ∧
  hasBody Try.prog 15 = true ∧
  hasBody Try.prog 16 = true ∧
  hasBody Try.prog 17 = true ∧
  hasBody Try.prog 18 = true ∧
  hasBody Try.prog 19 = true ∧
  hasBody Try.prog 20 = true ∧
  hasBody Try.prog 21 = true ∧
  hasBody Try.prog 22 = true ∧
  hasBody Try.prog 23 = true ∧
  hasBody Try.prog 24 = true ∧
  hasBody Try.prog 25 = true ∧
  hasBody Try.prog 26 = true ∧
  hasBody Try.prog 27 = true ∧
  hasBody Try.prog 28 = true ∧
  hasBody Try.prog 29 = true ∧
  hasBody Try.prog 30 = true ∧
  hasBody Try.prog 31 = true ∧
  hasBody Try.prog 32 = true ∧
  hasBody Try.prog 33 = true ∧
  hasBody Try.prog 34 = true ∧
  hasBody Try.prog 35 = true ∧
  hasBody Try.prog 36 = true ∧
  hasBody Try.prog 37 = true ∧
  hasBody Try.prog 38 = true ∧
  hasBody Try.prog 39 = true ∧
  hasBody Try.prog 40 = true ∧
  hasBody Try.prog 41 = true ∧
  hasBody Try.prog 42 = true ∧
  hasBody Try.prog 43 = true ∧
  hasBody Try.prog 44 = true ∧
  hasBody Try.prog 45 = true ∧
  hasBody Try.prog 46 = true ∧
  hasBody Try.prog 47 = true ∧
  hasBody Try.prog 48 = true ∧
  hasBody Try.prog 49 = true ∧
  hasBody Try.prog 50 = true ∧
  hasBody Try.prog 51 = true ∧
  hasBody Try.prog 52 = true ∧
  hasBody Try.prog 53 = true ∧
  hasBody Try.prog 54 = true ∧
  hasBody Try.prog 55 = true ∧
  hasBody Try.prog 56 = true ∧
  hasBody Try.prog 57 = true ∧
  hasBody Try.prog 58 = true ∧
  hasBody Try.prog 59 = true ∧
  hasBody Try.prog 60 = true ∧
  hasBody Try.prog 61 = true ∧
  hasBody Try.prog 62 = true ∧
  hasBody Try.prog 63 = true ∧
  hasBody Try.prog 64 = true ∧
  hasBody Try.prog 65 = true ∧
  hasBody Try.prog 66 = true ∧
  hasBody Try.prog 67 = true ∧
  hasBody Try.prog 68 = true := by
  repeat' apply And.intro
  all_goals kernel_rfl
theorem WA_ok : True := trivial
def WA := And.intro VW (And.intro VY (And.intro VZ (And.intro VA (And.intro VB (And.intro VC (And.intro VE (And.intro TY VL)))))))
end Go.Proofs
