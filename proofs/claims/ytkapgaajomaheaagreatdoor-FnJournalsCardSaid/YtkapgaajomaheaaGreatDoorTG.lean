/- Contracts of functions, facts of types, or the plain law behind one statement (own work): TG. Conditions: those told in each theorem. -/
import Derived.Test.YtkapgaajomaheaaGreatDoorTF
import Derived.Shelf.Strconv.Itoa3
set_option linter.all false
namespace Go.Proofs
open Go Go.V
instance : Laid Tryz.prog := ⟨fun w => Lib.TabIs Tryz.prog w "internal/strconv.uint64pow10" .u64 Lib.pow10Tab⟩
end Go.Proofs
