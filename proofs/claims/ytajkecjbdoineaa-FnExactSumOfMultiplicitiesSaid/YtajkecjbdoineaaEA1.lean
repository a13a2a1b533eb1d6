/- Contracts of functions, facts of types, or the plain law behind one statement (own work): EA1. Conditions: those told in each theorem. -/
import Derived.Test.YtajkecjbdoineaaH1
import Derived.WalkKit
import Derived.ProofKit
import Derived.OpenShut
import Derived.ShutString
import Derived.ChangeOld
import Derived.SizedLaws
set_option linter.all false
set_option linter.unusedSimpArgs false
set_option linter.unusedVariables false
set_option maxRecDepth 4000
namespace Go.Proofs.Ytajkecjbdoineaa
open Go Go.V
open Go.ChangeShapes Go.WideShapes Go.ChangeAt Go.RowKit
theorem tyIntS : ArgT.ty (List Int) Try.prog 22 := ⟨_, Try.underlying22, by kernel_rfl, by decide, Try.underlying3⟩
end Go.Proofs.Ytajkecjbdoineaa
