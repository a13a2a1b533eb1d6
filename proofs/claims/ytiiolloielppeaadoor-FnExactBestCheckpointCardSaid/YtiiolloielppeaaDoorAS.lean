/- Contracts of functions, facts of types, or the plain law behind one statement (own work): AS. Conditions: those told in each theorem. -/
import Derived.Test.YtiiolloielppeaaDoorHS
import Derived.Test.YtiiolloielppeaaDoorT1
import Derived.WalkKit
import Derived.ProofKit
import Derived.OpenShut
import Derived.ShutString
import Derived.ChangeOld
import Derived.SizedLaws
set_option linter.all false
set_option linter.unusedSimpArgs false
set_option linter.unusedVariables false
set_option maxRecDepth 4000
namespace Go.Proofs.YtiiolloielppeaaDoor
open Go Go.V
theorem tyTexts : ArgT.ty (List ByteArray) Tryd.prog 41 := ⟨_, Tryd.underlying41, by kernel_rfl, by decide, Tryd.underlying9⟩
end Go.Proofs.YtiiolloielppeaaDoor
