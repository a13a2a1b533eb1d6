/- Contracts of functions, facts of types, or the plain law behind one statement (own work): C0. Conditions: those told in each theorem. -/
import Derived.Test.YtiiolloielppeaaGreatDoorC00
import Derived.Test.YtiiolloielppeaaGreatDoorTI
set_option linter.all false
set_option linter.unusedSimpArgs false
namespace Go.Proofs
open Go Go.V

end Go.Proofs
