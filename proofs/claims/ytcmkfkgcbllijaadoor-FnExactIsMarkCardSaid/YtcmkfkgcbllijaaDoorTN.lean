/- Contracts of functions, facts of types, or the plain law behind one statement (own work): TN. Conditions: those told in each theorem. -/
import Derived.Test.YtcmkfkgcbllijaaDoorTF
set_option linter.all false
namespace Go.Proofs
open Go Go.V
instance : Laid Tryd.prog := ⟨fun _ => True⟩
end Go.Proofs
