/- Contracts of functions, facts of types, or the plain law behind one statement (own work): ZA2. Conditions: those told in each theorem. -/
import Derived.Test.YtiiolloielppeaaA2
set_option linter.all false
set_option linter.unusedSimpArgs false
set_option linter.unusedVariables false
set_option maxRecDepth 4000
namespace Go.Proofs.Ytiiolloielppeaa
open Go Go.V
theorem tyBoxS : ArgT.ty (List Bx) Try.prog 22 := ⟨_, Try.underlying22, by kernel_rfl, by decide, tyBox⟩
end Go.Proofs.Ytiiolloielppeaa
