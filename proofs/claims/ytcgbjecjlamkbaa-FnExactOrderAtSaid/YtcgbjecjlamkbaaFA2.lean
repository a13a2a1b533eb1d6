/- Contracts of functions, facts of types, or the plain law behind one statement (own work): FA2. Conditions: those told in each theorem. -/
import Derived.Test.YtcgbjecjlamkbaaFA
set_option linter.all false
set_option linter.unusedSimpArgs false
set_option linter.unusedVariables false
set_option maxRecDepth 4000
namespace Go.Proofs.Ytcgbjecjlamkbaa
open Go Go.V
theorem tyIntS : ArgT.ty (List Int) Try.prog 22 := ⟨_, Try.underlying22, by kernel_rfl, by decide, Try.underlying3⟩
end Go.Proofs.Ytcgbjecjlamkbaa
