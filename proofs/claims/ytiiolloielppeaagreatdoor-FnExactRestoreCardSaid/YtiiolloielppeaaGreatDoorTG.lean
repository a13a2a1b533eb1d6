/- Contracts of functions, facts of types, or the plain law behind one statement (own work): TG. Conditions: those told in each theorem. -/
import Derived.Test.YtiiolloielppeaaGreatDoorTF
import Derived.Shelf.Strconv.Itoa3
set_option linter.all false
namespace Go.Proofs
open Go Go.V
def errCell (w : World) (g : Nat) : Prop := ∃ ev, w.cell? ⟨g, 0, none⟩ = some ev ∧ (ev = .nilIface ∨ ∃ t p, ev = .iface t p)
def intCell (w : World) (g : Nat) : Prop := ∃ m, w.cell? ⟨g, 0, none⟩ = some (.int .i64 m)
instance : Laid Tryz.prog := ⟨fun w => Lib.TabIs Tryz.prog w "internal/strconv.uint64pow10" .u64 Lib.pow10Tab ∧ intCell w 0 ∧ errCell w 1 ∧ errCell w 2⟩
end Go.Proofs
